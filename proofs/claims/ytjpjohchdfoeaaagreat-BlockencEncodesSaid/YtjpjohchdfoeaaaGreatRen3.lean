/-
  The shape of the passes, how many symbols there are, and what Encode answers: plain.
  What the block encoder answers, plain: the ends of the passes ascend, the bytes are bytes.
  The reference's arithmetic encoder, followed: the end of a codeword.
  The reference's arithmetic encoder, followed: the next multiple.
  The reference's arithmetic encoder, followed: a new one, its size, a reset, the end.
  The reference's arithmetic encoder, followed: begin, initial, a new one, reset, size, terminate.
  The reference's arithmetic encoder, followed: the end of a codeword.
  The reference's writer of raw bits, followed.
  The reference's writer of raw bits, followed: the end of a segment.
  The reference's division into segments, followed.
  The reference's segment, followed: the symbols of a pass.
  The reference's segment, followed: its passes.
  The reference's segment, followed.
  The block encoder, followed: Encode.
  The reference's passes: what they read; symbols and signs.
  The reference's passes: significance, refinement.
  The reference's cleanup pass, plain: the same as the program's.
-/
import Derived.Test.YtjpjohchdfoeaaaGreatBe4
import Derived.Test.YtjpjohchdfoeaaaGreatXa
namespace Go.Proofs.YtjpjohchdfoeaaaGreat
open Go Go.Sim
set_option linter.unusedVariables false
set_option linter.unusedSimpArgs false
def SymK (rw : Bool) (p : Int × Nat) : Prop := p.2 ≤ 1 ∧ -1 ≤ p.1 ∧ p.1 ≤ 18 ∧ (p.1 = -1 ↔ rw = true)
def OutOk (P : PP) (σ : ES) : Prop := ∀ p ∈ σ.out,SymK P.rw p
theorem ok_emit {P : PP} {σ : ES} (h : OutOk P σ) {c : Int} {n : Nat} (h0 : 0 ≤ c) (h1 : c ≤ 18) (hn : n ≤ 1) : OutOk P (σ.emit P c n) := by
 intro p hp
 simp only [ES.emit,List.mem_append,List.mem_singleton] at hp
 rcases hp with hp | rfl
 ·exact h p hp
 ·unfold SymK
  cases P.rw <;> simp <;> omega
theorem ok_map {P : PP} {σ : ES} (h : OutOk P σ) (x y : Int) (f : Cell → Cell) : OutOk P (σ.map x y f) := h
theorem strt_le (p s d : Nat) (hs : s ≤ 2) : strt p s d ≤ 8 := by unfold strt; (repeat' split) <;> omega
theorem diag_le (n d : Nat) : diag n d ≤ 8 := by unfold diag; (repeat' split) <;> omega
theorem sigCtx_le {o h v d : Nat} (hh : h ≤ 2) (hv : v ≤ 2) : sigCtx o h v d ≤ 8 := by
 unfold sigCtx
 split
 ·exact diag_le _ _
 ·split
  ·exact strt_le _ _ _ hh
  ·exact strt_le _ _ _ hv
theorem ctxOf_le (P : PP) (b : BS) (x y : Int) : ctxOf P b x y ≤ 8 := by
 obtain ⟨h1,h2,_⟩ := nb_le b x y P.cz
 exact sigCtx_le h1 h2
theorem joint_rng (s t : Int) : joint s t = -1 ∨ joint s t = 0 ∨ joint s t = 1 := by unfold joint; omega
theorem signCtx_rng {h v : Int} (hh : h = -1 ∨ h = 0 ∨ h = 1) (hv : v = -1 ∨ v = 0 ∨ v = 1) : 9 ≤ signCtx h v ∧ signCtx h v ≤ 13 := by
 rcases hh with rfl | rfl | rfl <;> rcases hv with rfl | rfl | rfl <;> decide
theorem refCtx_rng (a b : Bool) : 14 ≤ refCtx a b ∧ refCtx a b ≤ 16 := by cases a <;> cases b <;> decide
theorem bitOf_le (v : Int) (s : Nat) : bitOf v s ≤ 1 := by unfold bitOf; omega
theorem ok_sign {P : PP} {σ : ES} (h : OutOk P σ) (x y : Int) : OutOk P (σ.sign P x y) := by
 have := signCtx_rng (joint_rng (sgn σ.b (x - 1) y) (sgn σ.b (x + 1) y)) (joint_rng (sgn σ.b x (y - 1)) (if (!P.cz || y % 4 != 3) = true then sgn σ.b x (y + 1) else 0))
 change 9 ≤ signCtx (sgH σ.b x y) (sgV σ.b x y P.cz) ∧ signCtx (sgH σ.b x y) (sgV σ.b x y P.cz) ≤ 13 at this
 exact ok_map (ok_emit h (by omega) (by omega) (by unfold signBit; omega)) x y mark
theorem ok_code {P : PP} {σ : ES} (h : OutOk P σ) (x y : Int) : OutOk P (σ.code P x y) := by
 have h1 := ok_emit (n := bitOf (σ.b.get x y).v P.s) (c := ctxOf P σ.b x y) h (by omega) (by have := ctxOf_le P σ.b x y; omega) (bitOf_le _ _)
 unfold ES.code
 split
 ·exact ok_sign h1 x y
 ·exact h1
theorem ok_sig1 {P : PP} {σ : ES} (h : OutOk P σ) (x y : Int) : OutOk P (σ.sig1 P x y) := by
 unfold ES.sig1
 split
 ·exact ok_map (ok_code h x y) x y _
 ·exact h
theorem ok_ref1 {P : PP} {σ : ES} (h : OutOk P σ) (x y : Int) : OutOk P (σ.ref1 P x y) := by
 unfold ES.ref1
 split
 ·exact h
 ·have := refCtx_rng (!(σ.b.get x y).r) (near σ.b x y P.cz)
  exact ok_map (ok_map (ok_emit h (by omega) (by omega) (bitOf_le _ _)) x y _) x y _
theorem ok_cln1 {P : PP} {σ : ES} (h : OutOk P σ) (x y : Int) : OutOk P (σ.cln1 P x y) := by
 unfold ES.cln1
 split
 ·exact ok_code h x y
 ·exact h
theorem ok_run {P : PP} {σ : ES} (h : OutOk P σ) (x top : Int) : OutOk P (σ.run P x top).1 := by
 unfold ES.run
 split
 ·rename_i k hk
  have hlt := firstBit_lt hk
  exact ok_sign (ok_emit (ok_emit (ok_emit h (by omega) (by omega) (by omega)) (by omega) (by omega) (by omega)) (by omega) (by omega) (by omega)) x _
 ·exact ok_emit h (by omega) (by omega) (by omega)
theorem ok_rows {P : PP} : ∀ (n : Nat) {σ : ES} (x y : Int),OutOk P σ → OutOk P (σ.rows P x y n)
 | 0,_,_,_,h => h
 | n + 1,_,x,y,h => ok_rows n x (y + 1) (ok_cln1 h x y)
theorem ok_col {P : PP} {σ : ES} (h : OutOk P σ) (x top : Int) : OutOk P (σ.col P x top) := by
 unfold ES.col
 split
 ·exact ok_rows _ x _ (ok_run h x top)
 ·exact ok_rows _ x _ h
theorem ok_cols {P : PP} : ∀ (n : Nat) {σ : ES} (x top : Int),OutOk P σ → OutOk P (σ.cols P x top n)
 | 0,_,_,_,h => h
 | n + 1,_,x,top,h => ok_cols n (x + 1) top (ok_col h x top)
theorem ok_stripes {P : PP} : ∀ (n : Nat) {σ : ES} (top : Int),OutOk P σ → OutOk P (σ.stripes P top n)
 | 0,_,_,h => h
 | n + 1,_,top,h => ok_stripes n (top + 4) (ok_cols _ 0 top h)
theorem ok_fold {P : PP} {f : ES → Int × Int → ES} (hf : ∀ (σ : ES) (p : Int × Int),OutOk P σ → OutOk P (f σ p)) : ∀ (l : List (Int × Int)) {σ : ES},OutOk P σ → OutOk P (l.foldl f σ)
 | [],_,h => h
 | p :: l,_,h => ok_fold hf l (hf _ p h)
theorem ok_check {P : PP} {σ : ES} (h : OutOk P σ) (on : Bool) : OutOk P (σ.check P on) := by
 unfold ES.check
 split
 ·exact ok_emit (ok_emit (ok_emit (ok_emit h (by omega) (by omega) (by omega)) (by omega) (by omega) (by omega)) (by omega) (by omega) (by omega)) (by omega) (by omega) (by omega)
 ·exact h
theorem ok_runSt (m : MD) (b : BS) (n planes o : Nat) : ∀ p ∈ (runSt m b n planes o).out,SymK (rawOf m n) p := by
 have h0 : OutOk (runPP m n planes o) ⟨b,[]⟩ := fun p hp => by simp at hp
 unfold runSt
 split
 ·exact ok_fold (fun σ p h => ok_sig1 h p.1 p.2) _ h0
 ·split
  ·exact ok_fold (fun σ p h => ok_ref1 h p.1 p.2) _ h0
  ·exact ok_check (ok_fold (fun σ p h => ok_map h p.1 p.2 _) _ (ok_stripes _ 0 h0)) m.sy
theorem passesOf_get (m : MD) (planes o : Nat) : ∀ (n k : Nat) (b : BS) (i : Nat) (h : i < (passesOf m planes o n k b).length),∃ b',(passesOf m planes o n k b)[i] = (runSt m b' (k + i) planes o).out
 | 0,k,b,i,h => by simp [passesOf] at h
 | n + 1,k,b,0,h => ⟨b,rfl⟩
 | n + 1,k,b,i + 1,h => by
  obtain ⟨b',hb⟩ := passesOf_get m planes o n (k + 1) (runSt m b k planes o).b i (by simpa [passesOf] using h)
  refine ⟨b',?_⟩
  rw [show k + (i + 1) = k + 1 + i by omega,← hb]
  rfl
theorem stripePts_len' {h : Nat} (top : Int) : ∀ (n : Nat) (x : Int),(stripePts h x top n).length = n * (min (top + 4) (h : Int) - top).toNat
 | 0,x => by simp [stripePts]
 | n + 1,x => by
  rw [stripePts,List.length_append,colPts_len,stripePts_len' top n,Nat.add_mul]; omega
theorem scanPts_len' {w h : Nat} : ∀ (n : Nat) (top : Int),0 ≤ top → (h : Int) ≤ top + 4 * n → (scanPts w h top n).length = w * (h - top).toNat
 | 0,top,h0,h1 => by
  rw [show ((h : Int) - top).toNat = 0 by omega]; simp [scanPts]
 | n + 1,top,h0,h1 => by
  rw [scanPts,List.length_append,stripePts_len',scanPts_len' n (top + 4) (by omega) (by omega),← Nat.mul_add]
  congr 1; omega
theorem scan_len' (w h : Nat) : (scan w h).length = w * h := by
 have := scanPts_len' (w := w) (h := h) (stripesOf h) 0 (by omega) (by unfold stripesOf; omega)
 simpa [scan] using this
theorem out_le {m : MD} {b : BS} (hg : b.Good) {k planes o : Nat} : (ES.mk b []).Le (runSt m b k planes o) (12 * (b.w * b.h) + 4) := by
 have hsl := scan_len' b.w b.h
 have h1 := hg.ok.h1
 have hst : b.w * stripesOf b.h ≤ b.w * b.h := Nat.mul_le_mul (Nat.le_refl _) (by unfold stripesOf; omega)
 unfold runSt
 split
 ·exact (le_sigs (σ := ⟨b,[]⟩) hg (scanIn b)).mono (by omega)
 ·split
  ·exact (le_refs (σ := ⟨b,[]⟩) hg (scanIn b)).mono (by omega)
  ·have h1 := le_stripes (P := runPP m k planes o) (σ := ⟨b,[]⟩) (n := stripesOf b.h) hg (top := 0) (by omega) (by show (0 : Int) + 4 * (stripesOf b.h : Nat) ≤ b.h + 3; unfold stripesOf; omega)
   have hall : AllIn (ES.stripes (runPP m k planes o) ⟨b,[]⟩ 0 (stripesOf b.h)).b (scan b.w b.h) := by have := scanIn (ES.stripes (runPP m k planes o) ⟨b,[]⟩ 0 (stripesOf b.h)).b; rwa [h1.w,h1.h] at this
   have h2 := le_clear h1.good hall
   have h3 := h1.trans h2
   have h4 : ∀ τ : ES,τ.b.Good → τ.Le (τ.check (runPP m k planes o) m.sy) 4 := by
    intro τ hτ
    unfold ES.check
    split
    ·exact ⟨rfl,rfl,hτ,by simp [ES.emit],fun _ _ => rfl⟩
    ·exact ES.Le.refl hτ 4
   exact (h3.trans (h4 _ h3.good)).mono (by show 12 * b.w * stripesOf b.h + 0 + 4 ≤ _; rw [Nat.mul_assoc]; omega)
theorem passesOf_tot {m : MD} {planes o : Nat} : ∀ (n k : Nat) (b : BS),b.Good → totL (passesOf m planes o n k b) ≤ n * (12 * (b.w * b.h) + 4)
 | 0,_,_,_ => by simp [passesOf,totL]
 | n + 1,k,b,hg => by
  have h1 := out_le (m := m) hg (k := k) (planes := planes) (o := o)
  have h2 := passesOf_tot (m := m) (planes := planes) (o := o) n (k + 1) _ h1.good
  have h3 := h1.len
  rw [h1.w,h1.h] at h2
  rw [passesOf,totL,Nat.add_mul]
  simp at h2 h3 ⊢
  omega
theorem symRes_facts {xs : List Int} {w hh o : Int} {m : MD} (h0 : (symRes xs w hh o m).1 = 0) : ∃ (w' h' o' : Nat),planesOf xs ≤ 60 ∧ w' * h' = xs.length ∧ (fillTo w' h' xs xs.length).Good ∧
  (symRes xs w hh o m).2 = passesOf m (planesOf xs) o' (3 * planesOf xs - 2) 0 (fillTo w' h' xs xs.length) := by
 unfold symRes at h0 ⊢
 split at h0
 ·simp at h0
 ·rename_i hsz
  split at h0
  ·simp at h0
  ·rename_i hln
   split at h0
   ·simp at h0
   ·rename_i ho
    split at h0
    ·rename_i hb
     have hp := inR_planes.1 hb
     rw [if_neg hsz,if_neg hln,if_neg ho,if_pos hb]
     simp only [Bool.not_eq_false,sized,decide_eq_true_eq] at hsz
     obtain ⟨w,rfl⟩ := Int.eq_ofNat_of_zero_le (show 0 ≤ w by omega)
     obtain ⟨hh,rfl⟩ := Int.eq_ofNat_of_zero_le (show 0 ≤ hh by omega)
     simp only [ne_eq,Decidable.not_not] at hln
     rw [← Int.natCast_mul] at hln
     have hl : xs.length = w * hh := by omega
     exact ⟨w,hh,o.toNat,hp,hl.symm,fillTo_good (newBS_good (by omega) (by omega) (by omega) (by omega)) hl _ (Nat.le_refl _) (by rw [List.take_of_length_le (Nat.le_refl _)]; exact hb),rfl⟩
    ·simp at h0
theorem symRes_len {xs : List Int} {w hh o : Int} {m : MD} (h0 : (symRes xs w hh o m).1 = 0) : planesOf xs ≤ 60 ∧ (symRes xs w hh o m).2.length = 3 * planesOf xs - 2 := by
 obtain ⟨w',h',o',hp,_,_,he⟩ := symRes_facts h0
 rw [he,passesOf_len]; exact ⟨hp,rfl⟩
theorem symRes_tot {xs : List Int} {w hh o : Int} {m : MD} (hx : xs.length ≤ 400) : totL (symRes xs w hh o m).2 ≤ 900000 := by
 by_cases h0 : (symRes xs w hh o m).1 = 0
 ·obtain ⟨w',h',o',hp,hl,hg,he⟩ := symRes_facts h0
  have h1 := passesOf_tot (m := m) (planes := planesOf xs) (o := o') (3 * planesOf xs - 2) 0 _ hg
  rw [he]
  have h2 : (3 * planesOf xs - 2) * (12 * (w' * h') + 4) ≤ 178 * (12 * 400 + 4) := Nat.mul_le_mul (by omega) (by omega)
  have h3 : (fillTo w' h' xs xs.length).w * (fillTo w' h' xs xs.length).h = w' * h' := rfl
  rw [h3] at h1
  omega
 ·have : (symRes xs w hh o m).2 = [] := by
   unfold symRes at h0 ⊢
   repeat' split
   all_goals simp_all
  rw [this]; simp [totL]
theorem symRes_sym {xs : List Int} {w hh o : Int} {m : MD} (h0 : (symRes xs w hh o m).1 = 0) : ∀ i (h1 : i < (symRes xs w hh o m).2.length),∀ s ∈ (symRes xs w hh o m).2[i],s.2 < 2 ∧ (rawOf m i = false → 0 ≤ s.1 ∧ s.1 < 19) := by
 obtain ⟨w',h',o',hp,hl,hg,he⟩ := symRes_facts h0
 rw [he]
 intro i h1 s hs
 obtain ⟨b',hb⟩ := passesOf_get m (planesOf xs) o' (3 * planesOf xs - 2) 0 _ i h1
 rw [hb,Nat.zero_add] at hs
 obtain ⟨q1,q2,q3,q4⟩ := ok_runSt m b' i (planesOf xs) o' s hs
 refine ⟨by omega,fun hr => ?_⟩
 rw [hr] at q4
 have : ¬ s.1 = -1 := fun x => by have := q4.1 x; simp at this
 omega
theorem segOk_plain {m : MD} (hb : m.byp = false) : ∀ (l : List Nat) (n : Nat),SegOk m n l
 | [],_ => trivial
 | c :: cs,n => ⟨fun _ j _ => by simp [rawOf,hb],segOk_plain hb cs (n + c)⟩
theorem segOk_ones {m : MD} : ∀ (l : List Nat) (n : Nat),(∀ c ∈ l,c ≤ 1) → SegOk m n l
 | [],_,_ => trivial
 | c :: cs,n,h => ⟨fun h0 j hj => by
   have := h c (List.mem_cons_self ..)
   have : j = 0 := by omega
   subst this; exact h0,segOk_ones cs (n + c) fun x hx => h x (List.mem_cons_of_mem _ hx)⟩
theorem sgGo_ones {m : MD} (hr : m.res = true) : ∀ (f left : Nat),∀ c ∈ sgGo m f 1 left,c ≤ 1
 | 0,_,c,hc => by simp [sgGo] at hc
 | f + 1,left,c,hc => by
  unfold sgGo at hc
  split at hc
  ·simp at hc
  ·rcases List.mem_cons.1 hc with rfl | hc
   ·omega
   ·have : sgNext m 1 = 1 := by unfold sgNext; rw [if_neg (by simp [hr])]
    rw [this] at hc
    exact sgGo_ones hr f _ c hc
theorem segOk_byp {m : MD} (hb : m.byp = true) (hr : m.res = false) : ∀ (f sz left n : Nat),(sz = 10 ∧ n = 0) ∨ (sz = 2 ∧ n % 3 = 1 ∧ 10 ≤ n) ∨ (sz = 1 ∧ n % 3 = 0 ∧ 12 ≤ n) → SegOk m n (sgGo m f sz left)
 | 0,_,_,_,_ => trivial
 | f + 1,sz,left,n,h => by
  have hnx : sgNext m sz = if sz = 2 then 1 else 2 := by unfold sgNext; rw [if_pos ⟨hb,hr⟩]
  unfold sgGo
  by_cases h0 : left = 0
  ·rw [if_pos h0]; trivial
  ·rw [if_neg h0]
   refine ⟨fun h1 j hj => ?_,?_⟩
   ·rcases h with ⟨rfl,rfl⟩ | ⟨rfl,h2,h3⟩ | ⟨rfl,h2,h3⟩
    ·have : j < 10 := by omega
     have : planeOf (0 + j) < 4 := by unfold planeOf; split <;> omega
     simp only [rawOf,Bool.and_eq_false_iff,decide_eq_false_iff_not]
     left; right; omega
    ·have e1 : planeOf n = (n - 1) / 3 + 1 := by unfold planeOf; rw [if_neg (by omega)]
     have e2 : kindOf n = (n - 1) % 3 := by unfold kindOf; rw [if_neg (by omega)]
     have : rawOf m n = true := by
      simp only [rawOf,hb,Bool.true_and,Bool.and_eq_true,decide_eq_true_eq,e1,e2]
      omega
     rw [this] at h1; simp at h1
    ·have : j = 0 := by omega
     subst this; exact h1
   ·by_cases hlt : left < sz
    ·have e : left - min sz left = 0 := by omega
     rw [e]
     cases f with
     | zero => trivial
     | succ f => unfold sgGo; rw [if_pos rfl]; trivial
    ·have e : min sz left = sz := by omega
     rw [e]
     refine segOk_byp hb hr f _ _ _ ?_
     rw [hnx]
     rcases h with ⟨rfl,rfl⟩ | ⟨rfl,h2,h3⟩ | ⟨rfl,h2,h3⟩
     ·right; left; simp
     ·right; right; simp; omega
     ·right; left; simp; omega
theorem segOk_all (m : MD) (n : Nat) : SegOk m 0 (segsOf m n) := by
 unfold segsOf
 split
 ·trivial
 ·cases hb : m.byp with
  | false => exact segOk_plain hb _ _
  | true =>
   cases hr : m.res with
   | true =>
    have : sgFirst m n = 1 := by unfold sgFirst; rw [if_pos hr]
    rw [this]
    exact segOk_ones _ _ (sgGo_ones hr _ _)
   | false =>
    have : sgFirst m n = 10 := by unfold sgFirst; rw [if_neg (by simp [hr]),if_pos hb]
    rw [this]
    exact segOk_byp hb hr _ _ _ _ (.inl ⟨rfl,rfl⟩)
structure Cd where
 pl : Nat
 ps : List Nat
 ds : List Nat
def encRes (xs : List Int) (w h o : Int) (m : MD) : Int × Cd :=
 let r := symRes xs w h o m
 if r.1 ≠ 0 then (r.1,⟨0,[],[]⟩)
 else
  let q := encSegs m r.2 (segsOf m r.2.length) 0 (AE.begin (AE.base 19)) [] []
  if 65535 < q.2.length then (5,⟨0,[],[]⟩) else (0,⟨planesOf xs,q.1,q.2⟩)
structure S2Ok (st : S2) : Prop where
 ok : st.a.Ok
 p : st.a.p.length = 19
 bits : ∀ bs,st.raw = some bs → AreBits bs
theorem AE.put_len (a : AE) (c bit : Nat) : a.ds.length ≤ (a.put c bit).ds.length ∧ (a.put c bit).p.length = a.p.length ∧ (a.put c bit).begun = true := by
 have key : ∀ b : AE,b.ds.length = a.ds.length → a.ds.length ≤ b.norm.ds.length := by
  intro b hb
  unfold AE.norm
  split
  ·simp only [List.length_append,List.length_singleton]; omega
  ·omega
 refine ⟨?_,by simp [AE.put],rfl⟩
 unfold AE.put
 by_cases hb : bit = 0
 ·simp only [hb,if_true]; exact key _ rfl
 ·simp only [hb,if_false]; exact key _ (addD_len _ _)
theorem put_st {st : S2} (h : S2Ok st) {s : Int × Nat} (hs : SymOk st.raw s) : S2Ok (st.put s) ∧ st.size ≤ (st.put s).size := by
 obtain ⟨a,raw⟩ := st
 obtain ⟨h1,h2,h3⟩ := h
 obtain ⟨hb,hc⟩ := hs
 cases raw with
 | none =>
  have hc := hc rfl
  simp only at h1 h2
  obtain ⟨q1,q2,q3⟩ := a.put_len s.1.toNat s.2
  refine ⟨⟨AE.put_ok h1 (by omega),by show (a.put _ _).p.length = 19; rw [q2]; exact h2,fun bs hbs => by simp [S2.put] at hbs⟩,?_⟩
  simp only [S2.put,S2.size,q3,if_true]
  split <;> omega
 | some bs =>
  refine ⟨⟨h1,h2,fun bs' hbs => ?_⟩,by simp only [S2.put,S2.size,List.length_append,List.length_singleton]; omega⟩
  simp only [S2.put,Option.some.injEq] at hbs
  subst hbs
  exact (h3 bs rfl).push (by omega)
theorem put_rawN (st : S2) (s : Int × Nat) : ((st.put s).raw = none ↔ st.raw = none) := by unfold S2.put; cases st.raw <;> simp
theorem symOk_raw {r r' : Option (List Nat)} {s : Int × Nat} (h : SymOk r s) (e : r' = none → r = none) : SymOk r' s := ⟨h.1,fun x => h.2 (e x)⟩
theorem puts_st : ∀ (l : List (Int × Nat)) {st : S2},S2Ok st → (∀ s ∈ l,SymOk st.raw s) → S2Ok (st.puts l) ∧ st.size ≤ (st.puts l).size
 | [],st,h,_ => ⟨h,Nat.le_refl _⟩
 | s :: l,st,h,hs => by
  obtain ⟨a,b⟩ := put_st h (hs s (List.mem_cons_self ..))
  obtain ⟨c,d⟩ := puts_st l a fun t ht => symOk_raw (hs t (List.mem_cons_of_mem _ ht)) (put_rawN st s).1
  exact ⟨c,Nat.le_trans b d⟩
theorem back_st {st : S2} (h : S2Ok st) : S2Ok st.back ∧ st.back.size = st.size := by
 refine ⟨⟨⟨base_ok _,h.ok.dig,h.ok.len,h.ok.s1,h.ok.s2,h.ok.top⟩,by simpa [S2.back,AE.setBack,AE.base] using h.p,h.bits⟩,?_⟩
 obtain ⟨a,raw⟩ := st
 cases raw <;> rfl
def asc : Nat → List Nat → Prop
 | _,[] => True
 | z,x :: xs => z ≤ x ∧ asc x xs
theorem segRun_st (m : MD) : ∀ (ls : List (List (Int × Nat))) (n : Nat) (st : S2),S2Ok st → (∀ l ∈ ls,∀ s ∈ l,SymOk st.raw s) → S2Ok (segRun m n ls st).1 ∧ asc st.size (segRun m n ls st).2
 | [],_,st,h,_ => ⟨h,trivial⟩
 | l :: r,n,st,h,hs => by
  have h0 : S2Ok (if m.rst = true ∧ rawOf m n = false then st.back else st) ∧ (if m.rst = true ∧ rawOf m n = false then st.back else st).size = st.size ∧ (if m.rst = true ∧ rawOf m n = false then st.back else st).raw = st.raw := by
   split
   ·exact ⟨(back_st h).1,(back_st h).2,rfl⟩
   ·exact ⟨h,rfl,rfl⟩
  obtain ⟨a0,b0,c0⟩ := h0
  obtain ⟨a1,b1⟩ := puts_st l a0 fun s hx => by rw [c0]; exact hs l (List.mem_cons_self ..) s hx
  obtain ⟨a2,b2⟩ := segRun_st m r (n + 1) _ a1 fun l' hl' s hx => symOk_raw (hs l' (List.mem_cons_of_mem _ hl') s hx) fun x => by rw [← c0]; exact (puts_raw l _).2 x
  exact ⟨a2,by rw [← b0]; exact b1,b2⟩
theorem choose_lt {low size : Nat} (h : low < 4294967296) : (chooseP low size).1 < 4294967296 := by
 unfold chooseP
 repeat' split
 all_goals simp only
 all_goals omega
theorem bytes_st {st : S2} (h : S2Ok st) : ∀ x ∈ st.bytes,x < 256 := by
 obtain ⟨a,raw⟩ := st
 cases raw with
 | none =>
  have hd := h.ok.dig
  have hl := h.ok.len
  have hlt := val_lt (hd.drop (a.ds.length - 4))
  have e : (a.ds.drop (a.ds.length - 4)).length = 4 := by rw [List.length_drop]; simp only at hl; omega
  rw [e] at hlt
  refine trim_dig ?_
  unfold termP
  refine Dig.app ?_ (dig4_dig (choose_lt (by simpa using hlt)))
  split
  ·exact addD_dig _ _
  ·exact hd.take _
 | some bs => exact fun x hx => pack_lt (h.bits bs rfl) x (List.mem_of_mem_take hx)
theorem after_st {st : S2} (h : S2Ok st) : st.after.Ok ∧ st.after.p.length = 19 := by
 obtain ⟨a,raw⟩ := st
 cases raw with
 | none => exact ⟨begin_ok h.ok.ps,h.p⟩
 | some bs => exact ⟨h.ok,h.p⟩
def vgoN : List Nat → Nat → Option Nat
 | [],l => some l
 | x :: xs,l => if x < l then none else vgoN xs x
theorem vgoN_app : ∀ (a b : List Nat) (l : Nat),vgoN (a ++ b) l = (vgoN a l).bind fun r => vgoN b r
 | [],b,l => rfl
 | x :: a,b,l => by
  simp only [List.cons_append,vgoN]
  split
  ·rfl
  ·exact vgoN_app a b x
theorem vgoN_asc {f : Nat → Nat} (hf : ∀ x y,x ≤ y → f x ≤ f y) : ∀ (zs : List Nat) (z : Nat),asc z zs → ∃ r,vgoN (zs.map f) (f z) = some (f r)
 | [],z,_ => ⟨z,rfl⟩
 | x :: xs,z,h => by
  obtain ⟨r,hr⟩ := vgoN_asc hf xs x h.2
  refine ⟨r,?_⟩
  rw [List.map_cons,vgoN,if_neg (by have := hf z x h.1; omega),hr]
theorem asc_take : ∀ (zs : List Nat) (z n : Nat),asc z zs → asc z (zs.take n)
 | [],_,n,h => by simpa using h
 | x :: xs,z,0,h => trivial
 | x :: xs,z,n + 1,h => ⟨h.1,asc_take xs x n h.2⟩
theorem asc_low : ∀ (zs : List Nat) {z z' : Nat},z' ≤ z → asc z zs → asc z' zs
 | [],_,_,_,_ => trivial
 | x :: xs,z,z',h,k => ⟨Nat.le_trans h k.1,k.2⟩
theorem encSegs_st (m : MD) (ls : List (List (Int × Nat))) (hsym : ∀ i (h1 : i < ls.length),∀ s ∈ ls[i],s.2 < 2 ∧ (rawOf m i = false → 0 ≤ s.1 ∧ s.1 < 19)) :
  ∀ (gs : List Nat) (n : Nat) (a : AE) (P D : List Nat),a.Ok → a.p.length = 19 → SegOk m n gs → (∀ c ∈ gs,1 ≤ c) → n + sumL gs ≤ ls.length → vgoN P 0 = some D.length → (∀ x ∈ D,x < 256) →
   vgoN (encSegs m ls gs n a P D).1 0 = some (encSegs m ls gs n a P D).2.length ∧ (∀ x ∈ (encSegs m ls gs n a P D).2,x < 256) ∧ (encSegs m ls gs n a P D).1.length = P.length + sumL gs
 | [],n,a,P,D,_,_,_,_,_,hP,hD => ⟨hP,hD,by simp [encSegs,sumL]⟩
 | c :: cs,n,a,P,D,ha,hp,hso,hc,hn,hP,hD => by
  obtain ⟨hso1,hso2⟩ := hso
  have hc1 := hc c (List.mem_cons_self ..)
  simp only [sumL] at hn
  have hS : S2Ok ⟨a,if rawOf m n = true then some [] else none⟩ := by
   refine ⟨ha,hp,fun bs hbs => ?_⟩
   simp only at hbs
   split at hbs
   ·injection hbs with hbs; subst hbs; intro b hb; cases hb
   ·cases hbs
  have hsy : ∀ l ∈ (ls.drop n).take c,∀ s ∈ l,SymOk (if rawOf m n = true then some [] else none : Option (List Nat)) s := by
   intro l hl s hs
   obtain ⟨j,hj,rfl⟩ := List.getElem_of_mem hl
   have hjc : j < c := by simp at hj; omega
   have hnj : n + j < ls.length := by omega
   have e1 : ((ls.drop n).take c)[j] = ls[n + j] := by simp
   rw [e1] at hs
   obtain ⟨q1,q2⟩ := hsym (n + j) hnj s hs
   refine ⟨q1,fun hx => q2 ?_⟩
   cases hrw : rawOf m n with
   | true => rw [hrw] at hx; simp at hx
   | false => exact hso1 hrw j hjc
  obtain ⟨s1,s2⟩ := segRun_st m _ n _ hS hsy
  have hrl := segRun_len m ((ls.drop n).take c) n ⟨a,if rawOf m n = true then some [] else none⟩
  have hcl : ((ls.drop n).take c).length = c := by rw [List.length_take,List.length_drop]; omega
  rw [hcl] at hrl
  simp only [encSegs]
  generalize segRun m n ((ls.drop n).take c) ⟨a,if rawOf m n = true then some [] else none⟩ = r at *
  obtain ⟨st,zs⟩ := r
  simp only at s1 s2 hrl ⊢
  obtain ⟨t1,t2⟩ := after_st s1
  obtain ⟨q,hq⟩ := vgoN_asc (f := fun z => min (D.length + z) (D ++ st.bytes).length) (fun x y h => by omega) (zs.take (c - 1)) 0 (asc_take _ _ _ (asc_low _ (Nat.zero_le _) s2))
  have e0 : min (D.length + 0) (D ++ st.bytes).length = D.length := by rw [List.length_append]; omega
  simp only [e0] at hq
  have hP' : vgoN (P ++ (zs.take (c - 1)).map (fun z => min (D.length + z) (D ++ st.bytes).length) ++ [(D ++ st.bytes).length]) 0 = some (D ++ st.bytes).length := by
   rw [vgoN_app,vgoN_app,hP]
   simp only [Option.bind_some,hq,vgoN]
   rw [if_neg (by omega)]
  obtain ⟨r1,r2,r3⟩ := encSegs_st m ls hsym cs (n + c) st.after _ (D ++ st.bytes) t1 t2 hso2 (fun x hx => hc x (List.mem_cons_of_mem _ hx)) (by omega) hP' (fun x hx => by
   rcases List.mem_append.1 hx with hx | hx
   ·exact hD x hx
   ·exact bytes_st s1 x hx)
  refine ⟨r1,r2,?_⟩
  rw [r3]
  simp only [List.length_append,List.length_map,List.length_take,List.length_singleton,sumL]
  omega
theorem vgoN_get : ∀ (ps : List Nat) (l r : Nat),vgoN ps l = some r → ∀ x ∈ ps,x ≤ r
 | [],_,_,_,x,hx => by cases hx
 | y :: ps,l,r,h,x,hx => by
  unfold vgoN at h
  split at h
  ·cases h
  ·have key : ∀ (ps : List Nat) (l r : Nat),vgoN ps l = some r → l ≤ r := by
    intro ps
    induction ps with
    | nil => intro l r h; simp [vgoN] at h; omega
    | cons z zs ih => intro l r h; unfold vgoN at h; split at h; cases h; have := ih _ _ h; omega
   rcases List.mem_cons.1 hx with rfl | hx
   ·exact key _ _ _ h
   ·exact vgoN_get ps y r h x hx
theorem encRes_facts {xs : List Int} {w hh o : Int} {m : MD} : ((encRes xs w hh o m).1 ≠ 0 → (encRes xs w hh o m).2 = ⟨0,[],[]⟩) ∧
  ((encRes xs w hh o m).1 = 0 → (symRes xs w hh o m).1 = 0 ∧ planesOf xs ≤ 60 ∧ (encRes xs w hh o m).2.pl = planesOf xs ∧ (encRes xs w hh o m).2.ps.length = 3 * planesOf xs - 2 ∧
   vgoN (encRes xs w hh o m).2.ps 0 = some (encRes xs w hh o m).2.ds.length ∧ (∀ x ∈ (encRes xs w hh o m).2.ds,x < 256) ∧ (encRes xs w hh o m).2.ds.length ≤ 65535) := by
 by_cases h0 : (symRes xs w hh o m).1 = 0
 ·obtain ⟨hp,hl⟩ := symRes_len h0
  obtain ⟨g1,g2,g3⟩ := segs_sum (m := m) (n := (symRes xs w hh o m).2.length) (by omega)
  obtain ⟨r1,r2,r3⟩ := encSegs_st m (symRes xs w hh o m).2 (symRes_sym h0) (segsOf m (symRes xs w hh o m).2.length) 0 (AE.begin (AE.base 19)) [] [] (begin_ok (base_ok 19)) (by simp [AE.begin,AE.base]) (segOk_all m _) (fun c hc => (g3 c hc).1) (by omega) rfl (fun x hx => by cases hx)
  unfold encRes
  simp only [ne_eq,h0,not_true_eq_false,if_false]
  split
  ·exact ⟨fun _ => rfl,fun h => by simp at h⟩
  ·rename_i hb
   refine ⟨fun h => by simp at h,fun _ => ⟨trivial,hp,rfl,?_,r1,r2,by simp only; omega⟩⟩
   simp only
   rw [r3,g1,hl]; simp
 ·have e : encRes xs w hh o m = ((symRes xs w hh o m).1,⟨0,[],[]⟩) := by unfold encRes; simp only [ne_eq,h0,not_false_eq_true,if_true]
  rw [e]
  exact ⟨fun _ => rfl,fun h => absurd h h0⟩
set_option maxRecDepth 10000
def awP (size : Nat) (u : List Nat) : Nat := u.foldl (fun a d => if a < size then 256 * a + 255 - d else a) 0
theorem awP_snoc (size : Nat) (u : List Nat) (x : Nat) : awP size (u ++ [x]) = if awP size u < size then 256 * awP size u + 255 - x else awP size u := by
 unfold awP; rw [List.foldl_append]; rfl
theorem awP_spec {size : Nat} (hs : size < 4294967296) : ∀ (n : Nat) (u : List Nat),u.length = n → Dig u → awP size u < 1200000000000 ∧ (awP size u + 1 + val u = 256 ^ u.length ∨ (size ≤ awP size u ∧ size + val u ≤ 256 ^ u.length))
 | 0,u,hl,_ => by
  obtain rfl := List.eq_nil_of_length_eq_zero hl
  exact ⟨by simp [awP],.inl (by simp [awP,val])⟩
 | n + 1,u,hl,hd => by
  obtain ⟨u,x,rfl⟩ : ∃ u' x,u = u' ++ [x] := ⟨u.dropLast,u.getLast (by intro h; rw [h] at hl; simp at hl),(List.dropLast_concat_getLast _).symm⟩
  have hl' : u.length = n := by simpa using hl
  obtain ⟨h1,h2⟩ := awP_spec hs n u hl' fun d hd' => hd d (by simp [hd'])
  have hx := hd x (by simp)
  have hv : val u < 256 ^ u.length := val_lt fun d hd' => hd d (by simp [hd'])
  rw [awP_snoc,val_append,List.length_append]
  simp only [val,List.length_cons,List.length_nil,Nat.zero_add,Nat.pow_succ,Nat.pow_zero,Nat.one_mul,Nat.zero_mul,Nat.mul_one]
  generalize 256 ^ u.length = M at *
  generalize awP size u = A at *
  generalize val u = v at *
  split
  ·rename_i hlt
   refine ⟨by omega,.inl ?_⟩
   rcases h2 with h2 | h2 <;> omega
  ·rename_i hlt
   refine ⟨h1,.inr ⟨by omega,?_⟩⟩
   rcases h2 with h2 | h2 <;> omega
theorem bytes_up {a : AE} (h : a.Ok) : firstUp a.ds a.size a.ds.length = a.bytes := by
 have hl := h.len
 have hd := h.dig
 have e4 : (a.ds.drop (a.ds.length - 4)).length = 4 := by rw [List.length_drop]; omega
 have hlt := val_lt (hd.drop (a.ds.length - 4))
 rw [e4] at hlt
 have hlow : val (a.ds.drop (a.ds.length - 4)) < 4294967296 := by simpa using hlt
 have e : dig4 (val (a.ds.drop (a.ds.length - 4))) = a.ds.drop (a.ds.length - 4) := val_inj (dig4_dig hlow) (hd.drop _) (by rw [dig4_len,e4]) (dig4_val _)
 have el : (a.ds.take (a.ds.length - 4)).length = a.ds.length - 4 := by rw [List.length_take]; omega
 have := term_eq (size := a.size) (out := a.ds.take (a.ds.length - 4)) (low := val (a.ds.drop (a.ds.length - 4))) (hd.take _) hlow (by have := h.s1; omega) h.s2 (by rw [e,List.take_append_drop,el]; exact h.top)
 rw [e,List.take_append_drop,el,Nat.sub_add_cancel hl] at this
 exact this
section
variable {h : Heap} {R : Value → Heap → Prop} {e pb lb : Nat} {a : AE}
theorem up_loop0 {vb : Nat} {t : List Nat} {k size n : Nat} (hvb : vb < h.length) (hs : size < 4294967296) (hn : n < 1000000000) {K : List RItem} {v1 : Value} :
  ∀ (r u : List Nat) (K0 K3 K4 K5 K6 K7 Kc Kd Ke Kf Kg Kh Ki Kj Kk Kl Km Kn Ko Kp Kq Kr Ks Kt Ku Kv Kw Kx Ky Kz J0 J1 J2 J3 J4 J5 J6 J7 J8 J9 Ja Jb Jc Jd Je Jf Jg Jh Ji Jj Jk Jl Jm Jn Jo Jp Jq Jr Js Jt Ju Jv Jw Jx Jy Jz Y0 Y1 Y2 : Value),Dig u → Dig r → t.length + u.length + r.length = n →
   (∀ K0 K3 K4 K5 K6 K7 Kb Kc Kd Ke Kf Kg Kh Ki Kj Kk Kl Km Kn Ko Kp Kq Kr Ks Kt Ku Kv Kw Kx Ky Kz J0 J1 J2 J3 J4 J5 J6 J7 J8 J9 Ja Jb Jc Jd Je Jf Jg Jh Ji Jj Jk Jl Jm Jn Jo Jp Jq Jr Js Jt Ju Jv Jw Jx Jy Jz Y0 Y1 Y2 : Value,Ok tab R132 K #[K0,v1,.int .i64 (size : Nat),K3,K4,K5,K6,K7,.slice (some ⟨vb,0,none⟩) n 1,.bool (decide (val (u ++ r) = 0)),.int .i64 (awP size (u ++ r) : Nat),Kb,Kc,Kd,Ke,Kf,Kg,Kh,Ki,Kj,Kk,Kl,Km,Kn,Ko,Kp,Kq,Kr,Ks,Kt,Ku,Kv,Kw,Kx,Ky,Kz,J0,J1,J2,J3,J4,J5,J6,J7,J8,J9,Ja,Jb,Jc,Jd,Je,Jf,Jg,Jh,Ji,Jj,Jk,Jl,Jm,Jn,Jo,Jp,Jq,Jr,Js,Jt,Ju,Jv,Jw,Jx,Jy,Jz,Y0,Y1,Y2] (h.set vb (some ⟨false,nI (t ++ List.replicate (u.length + r.length) 0)⟩)) R) →
   Ok tab R132 (.inLoop L132_0 :: .inBlock 0 :: K) #[K0,v1,.int .i64 (size : Nat),K3,K4,K5,K6,K7,.slice (some ⟨vb,0,none⟩) n 1,.bool (decide (val u = 0)),.int .i64 (awP size u : Nat),.int .i64 ((t.length + u.length : Nat) : Int),Kc,Kd,Ke,Kf,Kg,Kh,Ki,Kj,Kk,Kl,Km,Kn,Ko,Kp,Kq,Kr,Ks,Kt,Ku,Kv,Kw,Kx,Ky,Kz,J0,J1,J2,J3,J4,J5,J6,J7,J8,J9,Ja,Jb,Jc,Jd,Je,Jf,Jg,Jh,Ji,Jj,Jk,Jl,Jm,Jn,Jo,Jp,Jq,Jr,Js,Jt,Ju,Jv,Jw,Jx,Jy,Jz,Y0,Y1,Y2] (h.set vb (some ⟨false,nI (t ++ List.replicate u.length 0 ++ r)⟩)) R := by
 intro r
 induction r with
 | nil =>
  intro u K0 K3 K4 K5 K6 K7 Kc Kd Ke Kf Kg Kh Ki Kj Kk Kl Km Kn Ko Kp Kq Kr Ks Kt Ku Kv Kw Kx Ky Kz J0 J1 J2 J3 J4 J5 J6 J7 J8 J9 Ja Jb Jc Jd Je Jf Jg Jh Ji Jj Jk Jl Jm Jn Jo Jp Jq Jr Js Jt Ju Jv Jw Jx Jy Jz Y0 Y1 Y2 _ _ hl hk
  simp only [List.length_nil,Nat.add_zero,List.append_nil] at hl hk ⊢
  rw [hl]
  rw [ok_round,l132_0,L132_0a,L132_0b]
  simp
  exact hk ..
 | cons x r ih =>
  intro u K0 K3 K4 K5 K6 K7 Kc Kd Ke Kf Kg Kh Ki Kj Kk Kl Km Kn Ko Kp Kq Kr Ks Kt Ku Kv Kw Kx Ky Kz J0 J1 J2 J3 J4 J5 J6 J7 J8 J9 Ja Jb Jc Jd Je Jf Jg Jh Ji Jj Jk Jl Jm Jn Jo Jp Jq Jr Js Jt Ju Jv Jw Jx Jy Jz Y0 Y1 Y2 hu hr hl hk
  have hx := hr x (by simp)
  obtain ⟨ab,_⟩ := awP_spec hs u.length u rfl hu
  simp only [List.length_cons] at hl hk
  have hbk : ∀ X,blk? (h.set vb X) vb = X := fun X => blk?_set_eq hvb
  have hi : t.length + u.length < n := by omega
  have hlt : ((t.length + u.length : Nat) : Int) < (n : Int) := by omega
  have hge : (0 : Int) ≤ ((t.length + u.length : Nat) : Int) := by omega
  have htn : ((t.length + u.length : Nat) : Int).toNat = t.length + u.length := Int.toNat_natCast _
  have hcl : (t ++ List.replicate u.length 0 ++ x :: r).length = n := by simp; omega
  have hg : (nI (t ++ List.replicate u.length 0 ++ x :: r))[t.length + u.length]? = some (.int .i64 (x : Nat)) := by
   rw [nI_get (by omega),List.getD_eq_getElem?_getD,List.getElem?_append_right (by simp)]; simp
  have hst := nI_set (xs := t ++ List.replicate u.length 0 ++ x :: r) (i := t.length + u.length) (v := 0)
  have hlist : (t ++ List.replicate u.length 0 ++ x :: r).set (t.length + u.length) 0 = t ++ List.replicate (u ++ [x]).length 0 ++ r := by
   rw [List.set_append_right _ _ (by simp)]
   simp [List.replicate_succ']
  rw [hlist] at hst
  have hil2 : t.length + u.length + 1 ≤ (nI (t ++ List.replicate u.length 0 ++ x :: r)).length := by rw [nI_len]; omega
  have g1 := get_of hg
  have hst' : (nI (t ++ List.replicate u.length 0 ++ x :: r)).set (t.length + u.length) (.int .i64 0) = nI (t ++ List.replicate (u ++ [x]).length 0 ++ r) := hst
  have hw : IntKind.i64.wrap (((t.length + u.length : Nat) : Int) + 1) = ((t.length + (u ++ [x]).length : Nat) : Int) := by rw [wrapI (by omega) (by omega)]; simp; omega
  have ih' := fun K0 K3 K4 K5 K6 K7 Kc Kd Ke Kf Kg Kh Ki Kj Kk Kl Km Kn Ko Kp Kq Kr Ks Kt Ku Kv Kw Kx Ky Kz J0 J1 J2 J3 J4 J5 J6 J7 J8 J9 Ja Jb Jc Jd Je Jf Jg Jh Ji Jj Jk Jl Jm Jn Jo Jp Jq Jr Js Jt Ju Jv Jw Jx Jy Jz Y0 Y1 Y2 => ih (u ++ [x]) K0 K3 K4 K5 K6 K7 Kc Kd Ke Kf Kg Kh Ki Kj Kk Kl Km Kn Ko Kp Kq Kr Ks Kt Ku Kv Kw Kx Ky Kz J0 J1 J2 J3 J4 J5 J6 J7 J8 J9 Ja Jb Jc Jd Je Jf Jg Jh Ji Jj Jk Jl Jm Jn Jo Jp Jq Jr Js Jt Ju Jv Jw Jx Jy Jz Y0 Y1 Y2 (hu.app fun d hd => by simp at hd; omega) (fun d hd => hr d (by simp [hd])) (by simp; omega) (by
   rw [List.append_assoc,List.length_append,List.length_singleton,Nat.add_assoc,Nat.add_comm 1]; exact hk)
  rw [awP_snoc,val_append] at ih'
  simp only [val,List.length_cons,List.length_nil,Nat.zero_add,Nat.pow_succ,Nat.pow_zero,Nat.one_mul,Nat.zero_mul,Nat.mul_one,Nat.add_zero] at ih'
  generalize awP size u = A at *
  have q1 : IntKind.i64.wrap (256 * (A : Int)) = ((256 * A : Nat) : Int) := by rw [wrapI (by omega) (by omega)]; omega
  have q2 : IntKind.i64.wrap (((256 * A : Nat) : Int) + 255) = ((256 * A + 255 : Nat) : Int) := by rw [wrapI (by omega) (by omega)]; omega
  have q3 : IntKind.i64.wrap (((256 * A + 255 : Nat) : Int) - (x : Nat)) = ((256 * A + 255 - x : Nat) : Int) := by rw [wrapI (by omega) (by omega)]; omega
  clear hst hlist hk ih
  generalize nI (t ++ List.replicate u.length 0 ++ x :: r) = C at *
  generalize nI (t ++ List.replicate (u ++ [x]).length 0 ++ r) = C2 at *
  generalize ((t.length + (u ++ [x]).length : Nat) : Int) = i2 at *
  generalize t.length + u.length = i at *
  generalize hb0 : ((256 * A : Nat) : Int) = b0 at *
  generalize hb1 : ((256 * A + 255 : Nat) : Int) = b1 at *
  generalize hb2 : ((256 * A + 255 - x : Nat) : Int) = b2 at *
  have fin' : ∀ K0 K3 K4 K5 K6 K7 Kc Kd Ke Kf Kg Kh Ki Kj Kk Kl Km Kn Ko Kp Kq Kr Ks Kt Ku Kv Kw Kx Ky Kz J0 J1 J2 J3 J4 J5 J6 J7 J8 J9 Ja Jb Jc Jd Je Jf Jg Jh Ji Jj Jk Jl Jm Jn Jo Jp Jq Jr Js Jt Ju Jv Jw Jx Jy Jz Y0 Y1 Y2 : Value,Ok tab R132 (.inLoop L132_0 :: .inBlock 0 :: K) #[K0,v1,.int .i64 (size : Nat),K3,K4,K5,K6,K7,.slice (some ⟨vb,0,none⟩) n 1,.bool (decide (val u = 0) && decide (x = 0)),.int .i64 (if A < size then b2 else (A : Int)),.int .i64 i2,Kc,Kd,Ke,Kf,Kg,Kh,Ki,Kj,Kk,Kl,Km,Kn,Ko,Kp,Kq,Kr,Ks,Kt,Ku,Kv,Kw,Kx,Ky,Kz,J0,J1,J2,J3,J4,J5,J6,J7,J8,J9,Ja,Jb,Jc,Jd,Je,Jf,Jg,Jh,Ji,Jj,Jk,Jl,Jm,Jn,Jo,Jp,Jq,Jr,Js,Jt,Ju,Jv,Jw,Jx,Jy,Jz,Y0,Y1,Y2] (h.set vb (some ⟨false,C2⟩)) R := by
   intro K0 K3 K4 K5 K6 K7 Kc Kd Ke Kf Kg Kh Ki Kj Kk Kl Km Kn Ko Kp Kq Kr Ks Kt Ku Kv Kw Kx Ky Kz J0 J1 J2 J3 J4 J5 J6 J7 J8 J9 Ja Jb Jc Jd Je Jf Jg Jh Ji Jj Jk Jl Jm Jn Jo Jp Jq Jr Js Jt Ju Jv Jw Jx Jy Jz Y0 Y1 Y2
   have := ih' K0 K3 K4 K5 K6 K7 Kc Kd Ke Kf Kg Kh Ki Kj Kk Kl Km Kn Ko Kp Kq Kr Ks Kt Ku Kv Kw Kx Ky Kz J0 J1 J2 J3 J4 J5 J6 J7 J8 J9 Ja Jb Jc Jd Je Jf Jg Jh Ji Jj Jk Jl Jm Jn Jo Jp Jq Jr Js Jt Ju Jv Jw Jx Jy Jz Y0 Y1 Y2
   have e1 : (decide (val u * 256 + x = 0)) = (decide (val u = 0) && decide (x = 0)) := by
    by_cases hv : val u = 0 <;> by_cases hx0 : x = 0 <;> simp [hv,hx0] <;> omega
   have e2 : (((if A < size then 256 * A + 255 - x else A : Nat)) : Int) = if A < size then b2 else (A : Int) := by split <;> simp [← hb2]
   rw [e1,e2] at this
   exact this
  rw [ok_round,l132_0,L132_0a,L132_0b]
  by_cases hx0 : x = 0
  ·have hne : (((x : Nat) : Int) != 0) = false := by simp [hx0]
   by_cases hA : A < size
   ·have hA' : (A : Int) < (size : Int) := by omega
    simp only [hx0,decide_true,Bool.and_true,if_pos hA] at fin'
    simp [hlt,hge,htn,hi,hbk,hg,g1,hne,hA',q1,q2,q3,hil2,hst',hw]
    exact fin' ..
   ·have hA' : ¬ (A : Int) < (size : Int) := by omega
    simp only [hx0,decide_true,Bool.and_true,if_neg hA] at fin'
    simp [hlt,hge,htn,hi,hbk,hg,g1,hne,hA',q1,q2,q3,hil2,hst',hw]
    exact fin' ..
  ·have hne : (((x : Nat) : Int) != 0) = true := by simp [hx0]
   by_cases hA : A < size
   ·have hA' : (A : Int) < (size : Int) := by omega
    simp only [hx0,decide_false,Bool.and_false,if_pos hA] at fin'
    simp [hlt,hge,htn,hi,hbk,hg,g1,hne,hA',q1,q2,q3,hil2,hst',hw]
    exact fin' ..
   ·have hA' : ¬ (A : Int) < (size : Int) := by omega
    simp only [hx0,decide_false,Bool.and_false,if_neg hA] at fin'
    simp [hlt,hge,htn,hi,hbk,hg,g1,hne,hA',q1,q2,q3,hil2,hst',hw]
    exact fin' ..
end
set_option maxRecDepth 10000
theorem carry_eq {xs : List Nat} (hd : Dig xs) {i m : Nat} (hi : i < xs.length) (hdr : xs.drop (i + 1) = List.replicate m 255) (h255 : xs[i] ≠ 255) : addD xs 1 = (0,xs.take i ++ (xs[i] + 1) :: List.replicate m 0) := by
 have hlt : xs[i] < 256 := hd _ (List.getElem_mem hi)
 have hxs : xs = xs.take i ++ xs[i] :: List.replicate m 255 := by rw [← hdr,← List.drop_eq_getElem_cons hi,List.take_append_drop]
 have h1 : addD (xs[i] :: List.replicate m 255) 1 = (0,(xs[i] + 1) :: List.replicate m 0) := by
  rw [addD,addD_255]
  simp only
  rw [Nat.add_comm 1,Nat.div_eq_of_lt (by omega),Nat.mod_eq_of_lt (by omega)]
 have hdt : Dig (xs.take i) := hd.take i
 have h2 : addD xs 1 = addD (xs.take i ++ xs[i] :: List.replicate m 255) 1 := congrArg (addD · 1) hxs
 rw [h2,addD_append,h1]
 simp only
 rw [addD_zero hdt]
section
variable {h : Heap} {R : Value → Heap → Prop} {e pb lb : Nat} {a : AE}
theorem up_loop1 {vb k n : Nat} {xs : List Nat} (hd : Dig xs) (hvb : vb < h.length) (hn : n < 1000000000) (hlen : xs.length + k = n) {K : List RItem}
  (hr : (addD xs 1).1 = 0 → R (.tuple #[.slice (some ⟨vb,0,none⟩) n 1,.bool true]) (h.set vb (some ⟨false,nI ((addD xs 1).2 ++ List.replicate k 0)⟩)))
  (hk : (addD xs 1).1 ≠ 0 → ∀ K0 K1 K2 K3 K4 K5 K6 K7 K8 K9 Ka Kb Kc Kd Ke Kf Kg Kh Ki Kj Kk Kl Km Kn Ko Kp Kq Kr Ks Kt Ku Kv Kw Kx Ky Kz J0 J1 J2 J3 J4 J5 J6 J7 J8 J9 Ja Jb Jc Jd Je Jf Jg Jh Ji Jj Jk Jl Jm Jn Jo Jp Jq Jr Js Jt Ju Jv Jw Jx Jy Jz Y0 Y1 Y2 : Value,Ok tab R132 K #[K0,K1,K2,K3,K4,K5,K6,K7,K8,K9,Ka,Kb,Kc,Kd,Ke,Kf,Kg,Kh,Ki,Kj,Kk,Kl,Km,Kn,Ko,Kp,Kq,Kr,Ks,Kt,Ku,Kv,Kw,Kx,Ky,Kz,J0,J1,J2,J3,J4,J5,J6,J7,J8,J9,Ja,Jb,Jc,Jd,Je,Jf,Jg,Jh,Ji,Jj,Jk,Jl,Jm,Jn,Jo,Jp,Jq,Jr,Js,Jt,Ju,Jv,Jw,Jx,Jy,Jz,Y0,Y1,Y2] (h.set vb (some ⟨false,nI (List.replicate n 0)⟩)) R) :
  ∀ (i m : Nat) (K0 K1 K2 K3 K4 K5 K6 K7 K9 Ka Kb Kd Ke Kf Kg Kh Ki Kj Kk Kl Km Kn Ko Kp Kq Kr Ks Kt Ku Kv Kw Kx Ky Kz J0 J1 J2 J3 J4 J5 J6 J7 J8 J9 Ja Jb Jc Jd Je Jf Jg Jh Ji Jj Jk Jl Jm Jn Jo Jp Jq Jr Js Jt Ju Jv Jw Jx Jy Jz Y0 Y1 Y2 : Value),i + m = xs.length → xs.drop i = List.replicate m 255 →
   Ok tab R132 (.inLoop L132_1 :: .inBlock 2 :: K) #[K0,K1,K2,K3,K4,K5,K6,K7,.slice (some ⟨vb,0,none⟩) n 1,K9,Ka,Kb,.int .i64 ((i : Int) - 1),Kd,Ke,Kf,Kg,Kh,Ki,Kj,Kk,Kl,Km,Kn,Ko,Kp,Kq,Kr,Ks,Kt,Ku,Kv,Kw,Kx,Ky,Kz,J0,J1,J2,J3,J4,J5,J6,J7,J8,J9,Ja,Jb,Jc,Jd,Je,Jf,Jg,Jh,Ji,Jj,Jk,Jl,Jm,Jn,Jo,Jp,Jq,Jr,Js,Jt,Ju,Jv,Jw,Jx,Jy,Jz,Y0,Y1,Y2] (h.set vb (some ⟨false,nI (xs.take i ++ List.replicate (m + k) 0)⟩)) R := by
 intro i
 induction i with
 | zero =>
  intro m;intros;rename_i him hdr
  rw [List.drop_zero] at hdr
  have e : (addD xs 1).1 ≠ 0 := by rw [hdr,addD_255]; simp
  have hk' := hk e
  rw [← hlen,← him,Nat.zero_add] at hk'
  rw [ok_round,l132_1,L132_1a,L132_1b]
  simp
  exact hk' ..
 | succ i ih =>
  intro m;intros;rename_i him hdr
  have hi : i < xs.length := by omega
  have hin : i < n := by omega
  have hx : xs.drop i = xs[i] :: xs.drop (i + 1) := List.drop_eq_getElem_cons hi
  have hlt : xs[i] < 256 := hd _ (List.getElem_mem hi)
  have hbk : ∀ X,blk? (h.set vb X) vb = X := fun X => blk?_set_eq hvb
  have hcl : (xs.take (i + 1) ++ List.replicate (m + k) 0).length = n := by simp; omega
  have hg : (nI (xs.take (i + 1) ++ List.replicate (m + k) 0))[i]? = some (.int .i64 (xs[i] : Nat)) := by
   rw [nI_get (by omega),List.getD_eq_getElem?_getD,List.getElem?_append_left (by simp; omega),List.getElem?_take,if_pos (by omega),List.getElem?_eq_getElem hi]; rfl
  have c1 : (((i + 1 : Nat) : Int) - 1) = (i : Int) := by omega
  have w1 : IntKind.i64.wrap ((i : Int) - 1) = (i : Int) - 1 := wrapI (by omega) (by omega)
  have wu : IntKind.i64.wrap (((xs[i] : Nat) : Int) + 1) = ((xs[i] + 1 : Nat) : Int) := wrapN (n := xs[i] + 1) (by omega)
  have hil2 : i + 1 ≤ (nI (xs.take (i + 1) ++ List.replicate (m + k) 0)).length := by rw [nI_len]; omega
  have lst : ∀ v,(xs.take (i + 1) ++ List.replicate (m + k) 0).set i v = xs.take i ++ v :: List.replicate (m + k) 0 := fun v => by
   rw [List.take_succ_eq_append_getElem hi,List.append_assoc,List.set_append_right _ _ (by simp; omega)]
   simp [Nat.min_eq_left (show i ≤ xs.length by omega)]
  have hst : (nI (xs.take (i + 1) ++ List.replicate (m + k) 0)).set i (.int .i64 ((xs[i] + 1 : Nat) : Int)) = nI (xs.take i ++ (xs[i] + 1) :: List.replicate (m + k) 0) := by rw [nI_set,lst]
  have hg2 : (nI (xs.take i ++ (xs[i] + 1) :: List.replicate (m + k) 0))[i]? = some (.int .i64 ((xs[i] + 1 : Nat) : Int)) := by
   rw [nI_get (by simp; omega),List.getD_eq_getElem?_getD,List.getElem?_append_right (by simp; omega)]
   simp [Nat.min_eq_left (show i ≤ xs.length by omega)]
  have hl2 : i < (nI (xs.take i ++ (xs[i] + 1) :: List.replicate (m + k) 0)).length := by rw [nI_len]; simp; omega
  have hge : (0 : Int) ≤ (i : Int) := by omega
  rw [c1]
  by_cases h255 : xs[i] = 255
  ·have hst2 : (nI (xs.take i ++ (xs[i] + 1) :: List.replicate (m + k) 0)).set i (.int .i64 0) = nI (xs.take i ++ 0 :: List.replicate (m + k) 0) := by
    have := nI_set (xs := xs.take i ++ (xs[i] + 1) :: List.replicate (m + k) 0) (i := i) (v := 0)
    rw [List.set_append_right _ _ (by simp; omega)] at this
    simpa [Nat.min_eq_left (show i ≤ xs.length by omega)] using this
   have ih' := fun K0 K1 K2 K3 K4 K5 K6 K7 K9 Ka Kb Kd Ke Kf Kg Kh Ki Kj Kk Kl Km Kn Ko Kp Kq Kr Ks Kt Ku Kv Kw Kx Ky Kz J0 J1 J2 J3 J4 J5 J6 J7 J8 J9 Ja Jb Jc Jd Je Jf Jg Jh Ji Jj Jk Jl Jm Jn Jo Jp Jq Jr Js Jt Ju Jv Jw Jx Jy Jz Y0 Y1 Y2 => ih (m + 1) K0 K1 K2 K3 K4 K5 K6 K7 K9 Ka Kb Kd Ke Kf Kg Kh Ki Kj Kk Kl Km Kn Ko Kp Kq Kr Ks Kt Ku Kv Kw Kx Ky Kz J0 J1 J2 J3 J4 J5 J6 J7 J8 J9 Ja Jb Jc Jd Je Jf Jg Jh Ji Jj Jk Jl Jm Jn Jo Jp Jq Jr Js Jt Ju Jv Jw Jx Jy Jz Y0 Y1 Y2 (by omega) (by rw [hx,hdr,h255,List.replicate_succ])
   rw [show m + 1 + k = (m + k) + 1 by omega,List.replicate_succ] at ih'
   have h256 : ¬ (((xs[i] + 1 : Nat) : Int) < 256) := by omega
   have g1 := get_of hg
   have g2 := get_of hg2
   have hl2' : i + 1 ≤ (nI (xs.take i ++ (xs[i] + 1) :: List.replicate (m + k) 0)).length := hl2
   clear lst
   generalize nI (xs.take (i + 1) ++ List.replicate (m + k) 0) = C at *
   generalize nI (xs.take i ++ (xs[i] + 1) :: List.replicate (m + k) 0) = C1 at *
   generalize nI (xs.take i ++ 0 :: List.replicate (m + k) 0) = C2 at *
   generalize ((xs[i] + 1 : Nat) : Int) = v1 at *
   generalize ((xs[i] : Nat) : Int) = v0 at *
   rw [ok_round,l132_1,L132_1a,L132_1b]
   simp [hge,hin,hbk,hg,g1,wu,hil2,hst,hg2,g2,h256,hl2,hl2',hst2,w1]
   exact ih' ..
  ·have e := carry_eq hd hi hdr h255
   rw [e] at hr
   have hr' := hr rfl
   simp only at hr'
   have el : xs.take i ++ (xs[i] + 1) :: List.replicate m 0 ++ List.replicate k 0 = xs.take i ++ (xs[i] + 1) :: List.replicate (m + k) 0 := by
    rw [List.append_assoc,List.cons_append,List.replicate_append_replicate]
   rw [el] at hr'
   have h256 : (((xs[i] + 1 : Nat) : Int) < 256) := by omega
   have g1 := get_of hg
   have g2 := get_of hg2
   clear lst hr el
   generalize nI (xs.take (i + 1) ++ List.replicate (m + k) 0) = C at *
   generalize nI (xs.take i ++ (xs[i] + 1) :: List.replicate (m + k) 0) = C1 at *
   generalize ((xs[i] + 1 : Nat) : Int) = v1 at *
   generalize ((xs[i] : Nat) : Int) = v0 at *
   rw [ok_round,l132_1,L132_1a,L132_1b]
   simp [hge,hin,hbk,hg,g1,wu,hil2,hst,hg2,g2,h256,hl2,fin132]
   exact hr'
def UpOk (h h' : Heap) (w : Value) (ok : Bool) : Option (List Nat) → Prop
 | some v => ok = true ∧ ∃ vb,w = .slice (some ⟨vb,0,none⟩) v.length 1 ∧ blk? h' vb = some ⟨false,nI v⟩ ∧ h.length ≤ vb
 | none => ok = false ∧ w = .slice none 0 0
set_option maxHeartbeats 1000000 in
theorem up_c {ds : List Nat} {k size : Nat} (hlb : blk? h lb = some ⟨false,nI ds⟩) (hd : Dig ds) (h0 : 0 < ds.length) (hl : ds.length < 1000000000) (hk : k ≤ ds.length) (hs : size < 4294967296) :
  ∃ w ok h',(∀ R,Ret tab 132 [.slice (some ⟨lb,0,none⟩) ds.length 1,.int .i64 (k : Nat),.int .i64 (size : Nat)] h R = R (.tuple #[w,.bool ok]) h') ∧ UpOk h h' w ok (upR ds k size) ∧ (∀ id,id < h.length → blk? h' id = blk? h id) ∧ h.length ≤ h'.length := by
 have key : ∀ R0 : Value → Heap → Prop,(∀ w ok h',UpOk h h' w ok (upR ds k size) → (∀ id,id < h.length → blk? h' id = blk? h id) → h.length ≤ h'.length → R0 (.tuple #[w,.bool ok]) h') → Ret tab 132 [.slice (some ⟨lb,0,none⟩) ds.length 1,.int .i64 (k : Nat),.int .i64 (size : Nat)] h R0 := by
  intro R0 hR
  have hlbl := blk?_lt hlb
  have ho : OwnS (h ++ [some ⟨false,[]⟩]) 1 (.slice (some ⟨h.length,0,none⟩) 0 1) 0 [] := ⟨rfl,.inr ⟨h.length,rfl,blk?_push_eq⟩⟩
  have ht : Sl (h ++ [some ⟨false,[]⟩]) 1 (.slice (some ⟨lb,0,none⟩) ds.length 1) ds.length (nI ds) := ⟨by simp [nI],.inr ⟨lb,0,rfl,.inr ⟨_,by rw [blk?_push_lt hlbl]; exact hlb,by simp [nI],by rw [List.drop_zero]; exact List.take_of_length_le (by simp [nI])⟩⟩⟩
  obtain ⟨G,ha,hb,hGl,hGk⟩ := own_append (bytes := 8) ho ht (by unfold roomCells; omega) (by omega) (by omega)
  have hll : (h ++ [some (⟨false,[]⟩ : Blk)]).length = h.length + 1 := by simp
  rw [hll] at ha hb hGl hGk
  simp only [List.nil_append,Nat.zero_add] at ha hb
  have kG : ∀ id,id < h.length → blk? G id = blk? h id := fun id hid => by rw [hGk id (by omega) (by simp [sid]; omega),blk?_push_lt hid]
  have hsp : ds = ds.take (ds.length - k) ++ ds.drop (ds.length - k) := (List.take_append_drop _ _).symm
  have htl : (ds.take (ds.length - k)).length = ds.length - k := by rw [List.length_take]; omega
  have hdl : (ds.drop (ds.length - k)).length = k := by rw [List.length_drop]; omega
  have e0 : G.set (h.length + 1) (some ⟨false,nI (ds.take (ds.length - k) ++ List.replicate 0 0 ++ ds.drop (ds.length - k))⟩) = G := by
   rw [List.replicate_zero,List.append_nil,← hsp]
   unfold blk? at hb
   split at hb
   ·rename_i b hx
    injection hb with hb
    subst hb
    obtain ⟨hlt,hg⟩ := List.getElem?_eq_some_iff.1 hx
    rw [← hg,List.set_getElem_self]
   ·cases hb
  obtain ⟨_,aw⟩ := awP_spec hs _ (ds.drop (ds.length - k)) rfl (hd.drop _)
  obtain ⟨aw0,_⟩ := awP_spec hs _ (ds.drop (ds.length - k)) rfl (hd.drop _)
  rw [hdl] at aw
  have kS : ∀ X id,id < h.length → blk? (G.set (h.length + 1) X) id = blk? h id := fun X id hid => by rw [blk?_set_ne (by omega),kG id hid]
  have hSe : ∀ X,blk? (G.set (h.length + 1) X) (h.length + 1) = X := fun X => blk?_set_eq (by omega)
  have hL := fun K0 K3 K4 K5 K6 K7 Kc Kd Ke Kf Kg Kh Ki Kj Kk Kl Km Kn Ko Kp Kq Kr Ks Kt Ku Kv Kw Kx Ky Kz J0 J1 J2 J3 J4 J5 J6 J7 J8 J9 Ja Jb Jc Jd Je Jf Jg Jh Ji Jj Jk Jl Jm Jn Jo Jp Jq Jr Js Jt Ju Jv Jw Jx Jy Jz Y0 Y1 Y2 => up_loop0 (R := R0) (h := G) (vb := h.length + 1) (t := ds.take (ds.length - k)) (k := k) (size := size) (n := ds.length) (by omega) hs hl (v1 := .int .i64 (k : Nat)) (K := [.code (tlC 5 B132)]) (ds.drop (ds.length - k)) [] K0 K3 K4 K5 K6 K7 Kc Kd Ke Kf Kg Kh Ki Kj Kk Kl Km Kn Ko Kp Kq Kr Ks Kt Ku Kv Kw Kx Ky Kz J0 J1 J2 J3 J4 J5 J6 J7 J8 J9 Ja Jb Jc Jd Je Jf Jg Jh Ji Jj Jk Jl Jm Jn Jo Jp Jq Jr Js Jt Ju Jv Jw Jx Jy Jz Y0 Y1 Y2 (fun d hd' => by cases hd') (hd.drop _) (by rw [htl,hdl]; simp; omega)
  simp only [List.length_nil,List.nil_append,htl,hdl,Nat.add_zero,Nat.zero_add,e0] at hL
  have w0 : IntKind.i64.wrap ((ds.length : Int) - (k : Int)) = ((ds.length - k : Nat) : Int) := by rw [wrapI (by omega) (by omega)]; omega
  have w1 : IntKind.i64.wrap (((ds.length - k : Nat) : Int) - 1) = ((ds.length - k : Nat) : Int) - 1 := wrapI (by omega) (by omega)
  have w2 : IntKind.i64.wrap ((awP size (ds.drop (ds.length - k)) : Nat) + 1) = ((awP size (ds.drop (ds.length - k)) + 1 : Nat) : Int) := wrapN (n := awP size (ds.drop (ds.length - k)) + 1) (by omega)
  have fin' : ∀ K0 K3 K4 K5 K6 K7 Kb Kc Kd Ke Kf Kg Kh Ki Kj Kk Kl Km Kn Ko Kp Kq Kr Ks Kt Ku Kv Kw Kx Ky Kz J0 J1 J2 J3 J4 J5 J6 J7 J8 J9 Ja Jb Jc Jd Je Jf Jg Jh Ji Jj Jk Jl Jm Jn Jo Jp Jq Jr Js Jt Ju Jv Jw Jx Jy Jz Y0 Y1 Y2 : Value,Ok tab R132 [.code (tlC 5 B132)] #[K0,.int .i64 (k : Nat),.int .i64 (size : Nat),K3,K4,K5,K6,K7,.slice (some ⟨h.length + 1,0,none⟩) ds.length 1,.bool (decide (val (ds.drop (ds.length - k)) = 0)),.int .i64 (awP size (ds.drop (ds.length - k)) : Nat),Kb,Kc,Kd,Ke,Kf,Kg,Kh,Ki,Kj,Kk,Kl,Km,Kn,Ko,Kp,Kq,Kr,Ks,Kt,Ku,Kv,Kw,Kx,Ky,Kz,J0,J1,J2,J3,J4,J5,J6,J7,J8,J9,Ja,Jb,Jc,Jd,Je,Jf,Jg,Jh,Ji,Jj,Jk,Jl,Jm,Jn,Jo,Jp,Jq,Jr,Js,Jt,Ju,Jv,Jw,Jx,Jy,Jz,Y0,Y1,Y2] (G.set (h.length + 1) (some ⟨false,nI (ds.take (ds.length - k) ++ List.replicate k 0)⟩)) R0 := by
   intro K0 K3 K4 K5 K6 K7 Kb Kc Kd Ke Kf Kg Kh Ki Kj Kk Kl Km Kn Ko Kp Kq Kr Ks Kt Ku Kv Kw Kx Ky Kz J0 J1 J2 J3 J4 J5 J6 J7 J8 J9 Ja Jb Jc Jd Je Jf Jg Jh Ji Jj Jk Jl Jm Jn Jo Jp Jq Jr Js Jt Ju Jv Jw Jx Jy Jz Y0 Y1 Y2
   have hvl : (ds.take (ds.length - k) ++ List.replicate k 0).length = ds.length := by rw [List.length_append,htl,List.length_replicate]; omega
   by_cases hz : val (ds.drop (ds.length - k)) = 0
   ·have e : upR ds k size = some (ds.take (ds.length - k) ++ List.replicate k 0) := by unfold upR; rw [if_pos hz]
    rw [e] at hR
    have hR' := hR (.slice (some ⟨h.length + 1,0,none⟩) ds.length 1) true _ ⟨rfl,h.length + 1,by rw [hvl],hSe _,by omega⟩ (kS _) (by simp; omega)
    simp only [nthC,tlC,fstC,B132]
    simp [hz,fin132]
    exact hR'
   ·by_cases hq : size ≤ 256 ^ k - val (ds.drop (ds.length - k))
    ·have e : upR ds k size = none := by unfold upR; rw [if_neg hz,if_pos hq]
     rw [e] at hR
     have hR' := hR (.slice none 0 0) false _ ⟨rfl,rfl⟩ (kS (some ⟨false,nI (ds.take (ds.length - k) ++ List.replicate k 0)⟩)) (by simp; omega)
     have hge : (size : Int) ≤ ((awP size (ds.drop (ds.length - k)) + 1 : Nat) : Int) := by rcases aw with aw | aw <;> omega
     generalize ((awP size (ds.drop (ds.length - k)) + 1 : Nat) : Int) = a1 at *
     simp only [nthC,tlC,fstC,B132]
     simp [hz,w2,hge,fin132]
     exact hR'
    ·have hge : ¬ (size : Int) ≤ ((awP size (ds.drop (ds.length - k)) + 1 : Nat) : Int) := by rcases aw with aw | aw <;> omega
     have hL1 := fun K0 K1 K2 K3 K4 K5 K6 K7 K9 Ka Kb Kd Ke Kf Kg Kh Ki Kj Kk Kl Km Kn Ko Kp Kq Kr Ks Kt Ku Kv Kw Kx Ky Kz J0 J1 J2 J3 J4 J5 J6 J7 J8 J9 Ja Jb Jc Jd Je Jf Jg Jh Ji Jj Jk Jl Jm Jn Jo Jp Jq Jr Js Jt Ju Jv Jw Jx Jy Jz Y0 Y1 Y2 => up_loop1 (R := R0) (h := G) (vb := h.length + 1) (k := k) (n := ds.length) (xs := ds.take (ds.length - k)) (hd.take _) (by omega) hl (by rw [htl]; omega) (K := [.code (tlC 8 B132)])
      (fun h1 => by
       have e : upR ds k size = some ((addD (ds.take (ds.length - k)) 1).2 ++ List.replicate k 0) := by unfold upR; rw [if_neg hz,if_neg hq,if_pos h1]
       rw [e] at hR
       exact hR _ true _ ⟨rfl,h.length + 1,by rw [List.length_append,addD_len,htl,List.length_replicate]; simp; omega,hSe _,by omega⟩ (kS _) (by simp; omega))
      (fun h1 K0 K1 K2 K3 K4 K5 K6 K7 K8 K9 Ka Kb Kc Kd Ke Kf Kg Kh Ki Kj Kk Kl Km Kn Ko Kp Kq Kr Ks Kt Ku Kv Kw Kx Ky Kz J0 J1 J2 J3 J4 J5 J6 J7 J8 J9 Ja Jb Jc Jd Je Jf Jg Jh Ji Jj Jk Jl Jm Jn Jo Jp Jq Jr Js Jt Ju Jv Jw Jx Jy Jz Y0 Y1 Y2 => by
       have e : upR ds k size = none := by unfold upR; rw [if_neg hz,if_neg hq,if_neg h1]
       rw [e] at hR
       have hR' := hR (.slice none 0 0) false _ ⟨rfl,rfl⟩ (kS (some ⟨false,nI (List.replicate ds.length 0)⟩)) (by simp; omega)
       simp only [nthC,tlC,fstC,B132]
       simp [fin132]
       exact hR') (ds.length - k) 0 K0 K1 K2 K3 K4 K5 K6 K7 K9 Ka Kb Kd Ke Kf Kg Kh Ki Kj Kk Kl Km Kn Ko Kp Kq Kr Ks Kt Ku Kv Kw Kx Ky Kz J0 J1 J2 J3 J4 J5 J6 J7 J8 J9 Ja Jb Jc Jd Je Jf Jg Jh Ji Jj Jk Jl Jm Jn Jo Jp Jq Jr Js Jt Ju Jv Jw Jx Jy Jz Y0 Y1 Y2 (by rw [htl]; omega) (by rw [List.drop_of_length_le (by rw [htl]; omega)]; rfl)
     rw [List.take_of_length_le (by rw [htl]; omega),Nat.zero_add] at hL1
     generalize ((awP size (ds.drop (ds.length - k)) + 1 : Nat) : Int) = a1 at *
     generalize ((ds.length - k : Nat) : Int) = lk at *
     rw [show tlC 5 B132 = .seq (nthC 5 B132) (.seq (nthC 6 B132) (.seq (nthC 7 B132) (tlC 8 B132))) from rfl]
     generalize hT : tlC 8 B132 = tl at *
     simp only [nthC,tlC,fstC,B132]
     simp [hz,w2,hge,w0,w1]
     exact hL1 ..
  have hL' := fun K0 K3 K4 K5 K6 K7 Kc Kd Ke Kf Kg Kh Ki Kj Kk Kl Km Kn Ko Kp Kq Kr Ks Kt Ku Kv Kw Kx Ky Kz J0 J1 J2 J3 J4 J5 J6 J7 J8 J9 Ja Jb Jc Jd Je Jf Jg Jh Ji Jj Jk Jl Jm Jn Jo Jp Jq Jr Js Jt Ju Jv Jw Jx Jy Jz Y0 Y1 Y2 => hL K0 K3 K4 K5 K6 K7 Kc Kd Ke Kf Kg Kh Ki Kj Kk Kl Km Kn Ko Kp Kq Kr Ks Kt Ku Kv Kw Kx Ky Kz J0 J1 J2 J3 J4 J5 J6 J7 J8 J9 Ja Jb Jc Jd Je Jf Jg Jh Ji Jj Jk Jl Jm Jn Jo Jp Jq Jr Js Jt Ju Jv Jw Jx Jy Jz Y0 Y1 Y2 fin'
  have ev : decide (val [] = 0) = true := by simp [val]
  have ea : awP size [] = 0 := rfl
  rw [ev,ea] at hL'
  generalize ((ds.length - k : Nat) : Int) = lk at *
  rw [enter132,show B132 = .seq (nthC 0 B132) (.seq (nthC 1 B132) (.seq (nthC 2 B132) (.seq (nthC 3 B132) (.seq (nthC 4 B132) (tlC 5 B132))))) from rfl]
  generalize hT : tlC 5 B132 = tl at *
  simp only [nthC,tlC,fstC,B132]
  simp [repL,ha,w0]
  exact hL' ..
 obtain ⟨v,h',e,w,ok,rfl,a,b,c⟩ := ret_ex (key (fun v h' => ∃ w ok,v = .tuple #[w,.bool ok] ∧ UpOk h h' w ok (upR ds k size) ∧ (∀ id,id < h.length → blk? h' id = blk? h id) ∧ h.length ≤ h'.length) fun w ok h' a b c => ⟨w,ok,rfl,a,b,c⟩)
 exact ⟨w,ok,h',e,a,b,c⟩
end
set_option maxRecDepth 10000
section
variable {h : Heap} {R : Value → Heap → Prop} {e pb lb : Nat} {a : AE}
theorem put_len1 (a : AE) (c bit : Nat) : (a.put c bit).ds.length ≤ a.ds.length + 1 := by
 have key : ∀ b : AE,b.ds.length = a.ds.length → b.norm.ds.length ≤ a.ds.length + 1 := by
  intro b hb
  unfold AE.norm
  split
  ·simp only [List.length_append,List.length_singleton]; omega
  ·omega
 unfold AE.put
 by_cases hb : bit = 0
 ·simp only [hb,if_true]; exact key _ rfl
 ·simp only [hb,if_false]; exact key _ (addD_len _ _)
set_option maxHeartbeats 1000000 in
theorem xput_c {c bit : Nat} (I : XA h e pb lb a) (hc : c < a.p.length) (hb : bit < 2) (hl : a.ds.length < 1000000000) :
    ∃ h' lb',(∀ R,Ret tab 93 [ptr e,.int .i64 (c : Nat),.int .i64 (bit : Nat)] h R = R (.int .i64 0) h') ∧ XA h' e pb lb' (a.put c bit) ∧ SF h h' (ownX e pb lb) (ownX e pb lb') := by
  have key : ∀ R0 : Value → Heap → Prop,(∀ h' lb',XA h' e pb lb' (a.put c bit) → SF h h' (ownX e pb lb) (ownX e pb lb') → R0 (.int .i64 0) h') → Ret tab 93 [ptr e,.int .i64 (c : Nat),.int .i64 (bit : Nat)] h R0 := by
    intro R0 hR
    have h1 := I.blk
    have h2 := I.pblk
    have h3 := I.lblk
    have l1 := blk?_lt h1
    have l2 := blk?_lt h2
    have l3 := blk?_lt h3
    have pok := I.ok.ps.getD hc
    have s2 := I.ok.s2
    obtain ⟨r1,r2⟩ := AE.split_rng I.ok hc
    have g := nI_get hc
    have g' := get_of g
    have d : ((a.size : Int)).tdiv 4096 = ((a.size / 4096 : Nat) : Int) := by rw [Int.tdiv_eq_ediv_of_nonneg (by omega)]; omega
    have w1 : IntKind.i64.wrap ((a.size / 4096 : Nat) : Int) = ((a.size / 4096 : Nat) : Int) := wrapN (by omega)
    have hm := Nat.mul_le_mul (show a.size / 4096 ≤ 1048576 by omega) (show a.p.getD c 0 ≤ 4096 by unfold POk at pok; omega)
    have w2 : IntKind.i64.wrap (((a.size / 4096 : Nat) : Int) * (a.p.getD c 0 : Nat)) = ((a.split c : Nat) : Int) := by
      rw [← Int.natCast_mul]
      have : a.size / 4096 * a.p.getD c 0 = a.split c := rfl
      rw [this]; exact wrapN (by omega)
    have w3 : IntKind.i64.wrap ((a.size : Int) - (a.split c : Nat)) = ((a.size - a.split c : Nat) : Int) := by rw [wrapI (by omega) (by omega)]; omega
    have w4 : IntKind.i64.wrap ((a.ds.length : Int) - 1) = (a.ds.length : Int) - 1 := wrapI (by omega) (by omega)
    have hp0 : ¬ (a.p.length = 0) := by omega
    have hp0' : (((a.p.length : Nat) : Int) == 0) = false := by rw [beq_eq_false_iff_ne]; omega
    have hpn : a.p ≠ [] := fun x => by rw [x] at hp0; exact hp0 rfl
    have hc0 : ¬ ((c : Int) < 0) := by omega
    have hc1 : ¬ ((a.p.length : Int) ≤ (c : Int)) := by omega
    have hc2 : (c : Int) < (a.p.length : Int) := by omega
    have hb0 : ¬ ((bit : Int) < 0) := by omega
    have hb1 : ¬ ((1 : Int) < (bit : Int)) := by omega
    have last : ∀ (H : Heap) (lb' : Nat) (ds' : List Nat) (sz' : Nat),blk? H e = some ⟨false,[.slice (some ⟨pb,0,none⟩) a.p.length 1,.slice (some ⟨lb',0,none⟩) ds'.length 1,.int .i64 (sz' : Nat),.bool a.begun]⟩ → blk? H pb = some ⟨false,nI a.p⟩ → blk? H lb' = some ⟨false,nI ds'⟩ → (lb' = lb ∨ h.length ≤ lb') →
        (a.put c bit).ds = ds' → (a.put c bit).size = sz' → h.length ≤ H.length → (∀ id,id < h.length → ¬ ownX e pb lb id → blk? H id = blk? h id) →
        ∀ (K3 K4 K5 K6 K7 K8 K9 Ka Kb Kc Kd Ke Kf Kg Kh Ki Kj Kk Kl Km Kn Ko Kp Kq Kr Ks Kt Ku Kv Kw Kx Ky Kz J0 J1 J2 J3 J4 J5 J6 J7 J8 J9 Ja Jb Jc Jd Je Jf Jg Jh Ji Jj Jk Jl Jm Jn Jo Jp Jq Jr Js Jt Ju Jv Jw Jx Jy Jz Y0 Y1 Y2 Y3 Y4 Y5 Y6 Y7 Y8 Y9 Ya Yb Yc Yd Ye Yf Yg Yh Yi Yj Yk Yl Ym Yn Yo Yp Yq Yr Ys Yt Yu Yv Yw Yx Yy Yz Z0 Z1 Z2 Z3 Z4 Z5 Z6 Z7 Z8 Z9 Za Zb Zc Zd Ze Zf Zg Zh Zi Zj Zk Zl Zm Zn Zo Zp Zq : Value),Ok tab R93 [.code (tlC 6 B93)] #[ptr e,.int .i64 (c : Nat),.int .i64 (bit : Nat),K3,K4,K5,K6,K7,K8,K9,Ka,Kb,Kc,Kd,Ke,Kf,Kg,Kh,Ki,Kj,Kk,Kl,Km,Kn,Ko,Kp,Kq,Kr,Ks,Kt,Ku,Kv,Kw,Kx,Ky,Kz,J0,J1,J2,J3,J4,J5,J6,J7,J8,J9,Ja,Jb,Jc,Jd,Je,Jf,Jg,Jh,Ji,Jj,Jk,Jl,Jm,Jn,Jo,Jp,Jq,Jr,Js,Jt,Ju,Jv,Jw,Jx,Jy,Jz,Y0,Y1,Y2,Y3,Y4,Y5,Y6,Y7,Y8,Y9,Ya,Yb,Yc,Yd,Ye,Yf,Yg,Yh,Yi,Yj,Yk,Yl,Ym,Yn,Yo,Yp,Yq,Yr,Ys,Yt,Yu,Yv,Yw,Yx,Yy,Yz,Z0,Z1,Z2,Z3,Z4,Z5,Z6,Z7,Z8,Z9,Za,Zb,Zc,Zd,Ze,Zf,Zg,Zh,Zi,Zj,Zk,Zl,Zm,Zn,Zo,Zp,Zq] H R0 := by
      intro H lb' ds' sz' q1 q2 q3 q4 q5 q6 q7 q8 K3 K4 K5 K6 K7 K8 K9 Ka Kb Kc Kd Ke Kf Kg Kh Ki Kj Kk Kl Km Kn Ko Kp Kq Kr Ks Kt Ku Kv Kw Kx Ky Kz J0 J1 J2 J3 J4 J5 J6 J7 J8 J9 Ja Jb Jc Jd Je Jf Jg Jh Ji Jj Jk Jl Jm Jn Jo Jp Jq Jr Js Jt Ju Jv Jw Jx Jy Jz Y0 Y1 Y2 Y3 Y4 Y5 Y6 Y7 Y8 Y9 Ya Yb Yc Yd Ye Yf Yg Yh Yi Yj Yk Yl Ym Yn Yo Yp Yq Yr Ys Yt Yu Yv Yw Yx Yy Yz Z0 Z1 Z2 Z3 Z4 Z5 Z6 Z7 Z8 Z9 Za Zb Zc Zd Ze Zf Zg Zh Zi Zj Zk Zl Zm Zn Zo Zp Zq
      have m1 := blk?_lt q1
      have m2 := blk?_lt q2
      have m3 := blk?_lt q3
      have ne4 : e ≠ lb' := by rcases q4 with q4 | q4; · rw [q4]; exact I.ne2
                               · omega
      have ne5 : pb ≠ lb' := by rcases q4 with q4 | q4; · rw [q4]; exact I.ne3
                                · omega
      refine xtail q1 q2 I.ne1 hc I.ok.ps hb (hR _ lb' ⟨?_,?_,?_,I.ne1,ne4,ne5,AE.put_ok I.ok hc,by simp [AE.put]; exact I.pos⟩ ⟨by simp; omega,fun id hid hno => ?_,fun id hid => ?_⟩) ..
      · rw [blk?_set_eq (by simpa using m1),q5,q6]; simp [AE.put]
      · rw [blk?_set_ne I.ne1,blk?_set_eq m2]; simp [AE.put]
      · rw [blk?_set_ne ne4,blk?_set_ne ne5,q3,q5]
      · rw [blk?_set_ne (fun x => hno (.inl x.symm)),blk?_set_ne (fun x => hno (.inr (.inl x.symm))),q8 id hid hno]
      · rcases hid with hid | hid | hid
        · exact .inl (.inl hid)
        · exact .inl (.inr (.inl hid))
        · rcases q4 with q4 | q4
          · exact .inl (.inr (.inr (by rw [hid,q4])))
          · exact .inr ⟨by omega,by simp; omega⟩
    by_cases hbit : bit = 0
    · -- a 0
      subst hbit
      generalize hH : h.set e (some (⟨false,[.slice (some ⟨pb,0,none⟩) a.p.length 1,.slice (some ⟨lb,0,none⟩) a.ds.length 1,.int .i64 (a.split c : Nat),.bool a.begun]⟩ : Blk)) = H
      have e1 : blk? H e = some ⟨false,[.slice (some ⟨pb,0,none⟩) a.p.length 1,.slice (some ⟨lb,0,none⟩) a.ds.length 1,.int .i64 (a.split c : Nat),.bool a.begun]⟩ := by rw [← hH]; exact blk?_set_eq l1
      have e2 : blk? H pb = some ⟨false,nI a.p⟩ := by rw [← hH,blk?_set_ne I.ne1]; exact h2
      have e3 : blk? H lb = some ⟨false,nI a.ds⟩ := by rw [← hH,blk?_set_ne I.ne2]; exact h3
      have lH : H.length = h.length := by rw [← hH]; simp
      obtain ⟨G,lb',g1,g2,g3,g4,g5,g6⟩ := xnorm (R := R0) (v1 := .int .i64 (c : Nat)) (v2 := .int .i64 (0 : Nat)) e1 e3 I.ne2 (by omega) (by omega) hl
      have hn : (a.put c 0).ds = (if a.split c < 16777216 then a.ds ++ [0] else a.ds) ∧ (a.put c 0).size = (if a.split c < 16777216 then a.split c * 256 else a.split c) := by
        unfold AE.put AE.norm; simp only [if_true]; split <;> exact ⟨rfl,rfl⟩
      have L := fun K3 K4 K5 K6 K7 K8 K9 Ka Kb Kc Kd Ke Kf Kg Kh Ki Kj Kk Kl Km Kn Ko Kp Kq Kr Ks Kt Ku Kv Kw Kx Ky Kz J0 J1 J2 J3 J4 J5 J6 J7 J8 J9 Ja Jb Jc Jd Je Jf Jg Jh Ji Jj Jk Jl Jm Jn Jo Jp Jq Jr Js Jt Ju Jv Jw Jx Jy Jz Y0 Y1 Y2 Y3 Y4 Y5 Y6 Y7 Y8 Y9 Ya Yb Yc Yd Ye Yf Yg Yh Yi Yj Yk Yl Ym Yn Yo Yp Yq Yr Ys Yt Yu Yv Yw Yx Yy Yz Z0 Z1 Z2 Z3 Z4 Z5 Z6 Z7 Z8 Z9 Za Zb Zc Zd Ze Zf Zg Zh Zi Zj Zk Zl Zm Zn Zo Zp Zq => g6 [.code (tlC 6 B93)] K3 K4 K5 K6 K7 K8 K9 Ka Kb Kc Kd Ke Kf Kg Kh Ki Kj Kk Kl Km Kn Ko Kp Kq Kr Ks Kt Ku Kv Kw Kx Ky Kz J0 J1 J2 J3 J4 J5 J6 J7 J8 J9 Ja Jb Jc Jd Je Jf Jg Jh Ji Jj Jk Jl Jm Jn Jo Jp Jq Jr Js Jt Ju Jv Jw Jx Jy Jz Y0 Y1 Y2 Y3 Y4 Y5 Y6 Y7 Y8 Y9 Ya Yb Yc Yd Ye Yf Yg Yh Yi Yj Yk Yl Ym Yn Yo Yp Yq Yr Ys Yt Yu Yv Yw Yx Yy Yz Z0 Z1 Z2 Z3 Z4 Z5 Z6 Z7 Z8 Z9 Za Zb Zc Zd Ze Zf Zg Zh Zi Zj Zk Zl Zm Zn Zo Zp Zq (last G lb' _ _ g1 (by rw [g5 pb (by omega) (Ne.symm I.ne1) I.ne3]; exact e2) g2 (by omega) hn.1 hn.2 (by omega) (fun id hid hno => by
        rw [g5 id (by omega) (fun x => hno (.inl x)) (fun x => hno (.inr (.inr x))),← hH,blk?_set_ne (fun x => hno (.inl x.symm))]))
      clear last hR
      generalize ((a.split c : Nat) : Int) = sp at *
      generalize ((a.size / 4096 : Nat) : Int) = z' at *
      generalize a.p.getD c 0 = x at *
      generalize nI a.p = C at *
      rw [enter93,show B93 = .seq (nthC 0 B93) (.seq (nthC 1 B93) (.seq (nthC 2 B93) (.seq (nthC 3 B93) (.seq (nthC 4 B93) (.seq (nthC 5 B93) (tlC 6 B93)))))) from rfl]
      generalize hT : tlC 6 B93 = tl at *
      simp only [nthC,tlC,fstC,B93]
      simp [-Int.natCast_ediv,k_guard,k_guardU,h1,hp0,hp0',hpn,hc0,hc1,hc2,hc,h2,g,g',d,w1,w2,hH]
      exact L ..
    · -- a 1
      obtain rfl : bit = 1 := by omega
      generalize hH : h.set e (some (⟨false,[.slice (some ⟨pb,0,none⟩) a.p.length 1,.slice (some ⟨lb,0,none⟩) a.ds.length 1,.int .i64 (a.size - a.split c : Nat),.bool a.begun]⟩ : Blk)) = H
      have e1 : blk? H e = some ⟨false,[.slice (some ⟨pb,0,none⟩) a.p.length 1,.slice (some ⟨lb,0,none⟩) a.ds.length 1,.int .i64 (a.size - a.split c : Nat),.bool a.begun]⟩ := by rw [← hH]; exact blk?_set_eq l1
      have e2 : blk? H pb = some ⟨false,nI a.p⟩ := by rw [← hH,blk?_set_ne I.ne1]; exact h2
      have e3 : blk? H lb = some ⟨false,nI a.ds⟩ := by rw [← hH,blk?_set_ne I.ne2]; exact h3
      have lH : H.length = h.length := by rw [← hH]; simp
      have kH : ∀ id,id ≠ e → blk? H id = blk? h id := fun id hid => by rw [← hH,blk?_set_ne (Ne.symm hid)]
      generalize hK : H.set lb (some (⟨false,nI (addD a.ds (a.split c)).2⟩ : Blk)) = K
      have f1 : blk? K e = some ⟨false,[.slice (some ⟨pb,0,none⟩) a.p.length 1,.slice (some ⟨lb,0,none⟩) (addD a.ds (a.split c)).2.length 1,.int .i64 (a.size - a.split c : Nat),.bool a.begun]⟩ := by rw [← hK,blk?_set_ne (Ne.symm I.ne2),addD_len]; exact e1
      have f2 : blk? K pb = some ⟨false,nI a.p⟩ := by rw [← hK,blk?_set_ne (Ne.symm I.ne3)]; exact e2
      have f3 : blk? K lb = some ⟨false,nI (addD a.ds (a.split c)).2⟩ := by rw [← hK]; exact blk?_set_eq (by omega)
      have lK : K.length = h.length := by rw [← hK]; simp; omega
      obtain ⟨G,lb',g1,g2,g3,g4,g5,g6⟩ := xnorm (R := R0) (v1 := .int .i64 (c : Nat)) (v2 := .int .i64 (1 : Nat)) f1 f3 I.ne2 (by omega) (by omega) (by rw [addD_len]; exact hl)
      have hn : (a.put c 1).ds = (if a.size - a.split c < 16777216 then (addD a.ds (a.split c)).2 ++ [0] else (addD a.ds (a.split c)).2) ∧ (a.put c 1).size = (if a.size - a.split c < 16777216 then (a.size - a.split c) * 256 else a.size - a.split c) := by
        unfold AE.put AE.norm; simp only [Nat.one_ne_zero,if_false]; split <;> exact ⟨rfl,rfl⟩
      have L := fun K3 K4 K5 K6 K7 K8 K9 Ka Kb Kc Kd Ke Kf Kg Kh Ki Kj Kk Kl Km Kn Ko Kp Kq Kr Ks Kt Ku Kv Kw Kx Ky Kz J0 J1 J2 J3 J4 J5 J6 J7 J8 J9 Ja Jb Jc Jd Je Jf Jg Jh Ji Jj Jk Jl Jm Jn Jo Jp Jq Jr Js Jt Ju Jv Jw Jx Jy Jz Y0 Y1 Y2 Y3 Y4 Y5 Y6 Y7 Y8 Y9 Ya Yb Yc Yd Ye Yf Yg Yh Yi Yj Yk Yl Ym Yn Yo Yp Yq Yr Ys Yt Yu Yv Yw Yx Yy Yz Z0 Z1 Z2 Z3 Z4 Z5 Z6 Z7 Z8 Z9 Za Zb Zc Zd Ze Zf Zg Zh Zi Zj Zk Zl Zm Zn Zo Zp Zq => g6 [.code (tlC 6 B93)] K3 K4 K5 K6 K7 K8 K9 Ka Kb Kc Kd Ke Kf Kg Kh Ki Kj Kk Kl Km Kn Ko Kp Kq Kr Ks Kt Ku Kv Kw Kx Ky Kz J0 J1 J2 J3 J4 J5 J6 J7 J8 J9 Ja Jb Jc Jd Je Jf Jg Jh Ji Jj Jk Jl Jm Jn Jo Jp Jq Jr Js Jt Ju Jv Jw Jx Jy Jz Y0 Y1 Y2 Y3 Y4 Y5 Y6 Y7 Y8 Y9 Ya Yb Yc Yd Ye Yf Yg Yh Yi Yj Yk Yl Ym Yn Yo Yp Yq Yr Ys Yt Yu Yv Yw Yx Yy Yz Z0 Z1 Z2 Z3 Z4 Z5 Z6 Z7 Z8 Z9 Za Zb Zc Zd Ze Zf Zg Zh Zi Zj Zk Zl Zm Zn Zo Zp Zq (last G lb' _ _ g1 (by rw [g5 pb (by omega) (Ne.symm I.ne1) I.ne3]; exact f2) g2 (by omega) hn.1 hn.2 (by omega) (fun id hid hno => by
        rw [g5 id (by omega) (fun x => hno (.inl x)) (fun x => hno (.inr (.inr x))),← hK,blk?_set_ne (fun x => hno (.inr (.inr x.symm))),kH id (fun x => hno (.inl x))]))
      have e0 : H.set lb (some ⟨false,nI (a.ds.take a.ds.length ++ (addD (a.ds.drop a.ds.length) (a.split c)).2)⟩) = H := by
        rw [List.take_length,List.drop_length]
        simp only [addD,List.append_nil]
        unfold blk? at e3
        split at e3
        · rename_i b hx
          injection e3 with e3
          subst e3
          obtain ⟨hlt,hg⟩ := List.getElem?_eq_some_iff.1 hx
          rw [← hg,List.set_getElem_self]
        · cases e3
      have D := fun K3 K4 K5 K6 K9 Ka Kb Kc Kd Ke Kf Kg Kh Ki Kj Kk Kl Km Kn Ko Kp Kq Kr Ks Kt Ku Kv Kw Kx Ky Kz J0 J1 J2 J3 J4 J5 J6 J7 J8 J9 Ja Jb Jc Jd Je Jf Jg Jh Ji Jj Jk Jl Jm Jn Jo Jp Jq Jr Js Jt Ju Jv Jw Jx Jy Jz Y0 Y1 Y2 Y3 Y4 Y5 Y6 Y7 Y8 Y9 Ya Yb Yc Yd Ye Yf Yg Yh Yi Yj Yk Yl Ym Yn Yo Yp Yq Yr Ys Yt Yu Yv Yw Yx Yy Yz Z0 Z1 Z2 Z3 Z4 Z5 Z6 Z7 Z8 Z9 Za Zb Zc Zd Ze Zf Zg Zh Zi Zj Zk Zl Zm Zn Zo Zp Zq => xdig_loop (R := R0) (h := H) (v1 := .int .i64 (c : Nat)) (v2 := .int .i64 (1 : Nat)) I.ok.dig (b := a.split c) (by omega) hl I.ne2 e1 (by omega) (k := [.code (.seq (nthC 5 B93) (tlC 6 B93))])
        (fun K3 K4 K5 K6 K7 K8 K9 Ka Kb Kc Kd Ke Kf Kg Kh Ki Kj Kk Kl Km Kn Ko Kp Kq Kr Ks Kt Ku Kv Kw Kx Ky Kz J0 J1 J2 J3 J4 J5 J6 J7 J8 J9 Ja Jb Jc Jd Je Jf Jg Jh Ji Jj Jk Jl Jm Jn Jo Jp Jq Jr Js Jt Ju Jv Jw Jx Jy Jz Y0 Y1 Y2 Y3 Y4 Y5 Y6 Y7 Y8 Y9 Ya Yb Yc Yd Ye Yf Yg Yh Yi Yj Yk Yl Ym Yn Yo Yp Yq Yr Ys Yt Yu Yv Yw Yx Yy Yz Z0 Z1 Z2 Z3 Z4 Z5 Z6 Z7 Z8 Z9 Za Zb Zc Zd Ze Zf Zg Zh Zi Zj Zk Zl Zm Zn Zo Zp Zq => by
          rw [hK]
          have L' := L
          generalize tlC 6 B93 = t6 at L' ⊢
          simp only [nthC,tlC,fstC,B93]
          simp
          exact L' ..) a.ds.length K3 K4 K5 K6 K9 Ka Kb Kc Kd Ke Kf Kg Kh Ki Kj Kk Kl Km Kn Ko Kp Kq Kr Ks Kt Ku Kv Kw Kx Ky Kz J0 J1 J2 J3 J4 J5 J6 J7 J8 J9 Ja Jb Jc Jd Je Jf Jg Jh Ji Jj Jk Jl Jm Jn Jo Jp Jq Jr Js Jt Ju Jv Jw Jx Jy Jz Y0 Y1 Y2 Y3 Y4 Y5 Y6 Y7 Y8 Y9 Ya Yb Yc Yd Ye Yf Yg Yh Yi Yj Yk Yl Ym Yn Yo Yp Yq Yr Ys Yt Yu Yv Yw Yx Yy Yz Z0 Z1 Z2 Z3 Z4 Z5 Z6 Z7 Z8 Z9 Za Zb Zc Zd Ze Zf Zg Zh Zi Zj Zk Zl Zm Zn Zo Zp Zq (Nat.le_refl _)
      rw [e0,List.drop_length] at D
      simp only [addD] at D
      clear last hR L
      generalize ((a.size - a.split c : Nat) : Int) = sz at *
      generalize ((a.split c : Nat) : Int) = sp at *
      generalize ((a.size / 4096 : Nat) : Int) = z' at *
      generalize a.p.getD c 0 = x at *
      generalize nI a.p = C at *
      rw [enter93,show B93 = .seq (nthC 0 B93) (.seq (nthC 1 B93) (.seq (nthC 2 B93) (.seq (nthC 3 B93) (.seq (nthC 4 B93) (.seq (nthC 5 B93) (tlC 6 B93)))))) from rfl]
      generalize hT : Go.Sim.RCode.seq (nthC 5 B93) (tlC 6 B93) = tl at *
      simp only [nthC,tlC,fstC,B93]
      simp [-Int.natCast_ediv,k_guard,k_guardU,h1,hp0,hp0',hpn,hc0,hc1,hc2,hc,h2,g,g',d,w1,w2,w3,w4,hH,e1]
      exact D ..
  obtain ⟨v,h',ee,lb',rfl,a1,a2⟩ := ret_ex (key (fun v h' => ∃ lb',v = .int .i64 0 ∧ XA h' e pb lb' (a.put c bit) ∧ SF h h' (ownX e pb lb) (ownX e pb lb')) fun h' lb' x y => ⟨lb',rfl,x,y⟩)
  exact ⟨h',lb',ee,a1,a2⟩
end
set_option maxRecDepth 10000
section
variable {h : Heap} {R : Value → Heap → Prop} {e pb lb : Nat} {a : AE}
theorem begin_x {p : List Nat} {lv sz bg : Value} (hbe : blk? h e = some ⟨false,[.slice (some ⟨pb,0,none⟩) p.length 1,lv,sz,bg]⟩) (hpb : blk? h pb = some ⟨false,nI p⟩) (hne : e ≠ pb) (hp : PsOk p) (h0 : 0 < p.length) :
  ∃ h',(∀ R,Ret tab 89 [ptr e] h R = R (.tuple #[]) h') ∧ XA h' e pb h.length (AE.begin p) ∧ (∀ id,id < h.length → id ≠ e → blk? h' id = blk? h id) ∧ h'.length = h.length + 1 := by
 have le := blk?_lt hbe
 have lp := blk?_lt hpb
 have hbe' : blk? (h ++ [some (⟨false,[.int .i64 0,.int .i64 0,.int .i64 0,.int .i64 0]⟩ : Blk)]) e = some ⟨false,[.slice (some ⟨pb,0,none⟩) p.length 1,lv,sz,bg]⟩ := by rw [blk?_push_lt le]; exact hbe
 have hse : ∀ x,blk? ((h ++ [some (⟨false,[.int .i64 0,.int .i64 0,.int .i64 0,.int .i64 0]⟩ : Blk)]).set e x) e = x := fun x => blk?_set_eq (by simp; omega)
 refine ⟨(h ++ [some (⟨false,[.int .i64 0,.int .i64 0,.int .i64 0,.int .i64 0]⟩ : Blk)]).set e (some ⟨false,[.slice (some ⟨pb,0,none⟩) p.length 1,.slice (some ⟨h.length,0,none⟩) 4 1,.int .i64 4294967295,.bool false]⟩),fun R => ?_,⟨hse _,?_,?_,hne,by omega,by omega,begin_ok hp,h0⟩,fun id hid hn => ?_,by simp⟩
 ·rw [enter89,B89]
  generalize hQ : h ++ [some (⟨false,[.int .i64 0,.int .i64 0,.int .i64 0,.int .i64 0]⟩ : Blk)] = Q at *
  simp [repL,hQ,hbe',hse,fin89]
 ·rw [blk?_set_ne hne,blk?_push_lt lp]; exact hpb
 ·rw [blk?_set_ne (by omega),blk?_push_eq]; rfl
 ·rw [blk?_set_ne (Ne.symm hn),blk?_push_lt hid]
theorem init_loop {h0 : Heap} {n : Nat} (hn : n ≤ 1000) {K : List RItem}
  (hk : ∀ (H : Heap) (v : Value) (K0 K1 K2 K4 K5 K6 K7 K8 K9 Ka Kb Kc Kd Ke : Value),OwnS H 1 v n (nI (List.replicate n 2048)) → (∀ id,sid v = some id → h0.length ≤ id) → (∀ id,id < h0.length → blk? H id = blk? h0 id) → h0.length ≤ H.length → Ok tab R88 K #[K0,K1,K2,v,K4,K5,K6,K7,K8,K9,Ka,Kb,Kc,Kd,Ke] H R) :
  ∀ (d i : Nat) (H : Heap) (v : Value) (K1 K2 K5 K6 K7 K8 K9 Ka Kb Kc Kd Ke : Value),i + d = n → OwnS H 1 v i (nI (List.replicate i 2048)) → (∀ id,sid v = some id → h0.length ≤ id) → (∀ id,id < h0.length → blk? H id = blk? h0 id) → h0.length ≤ H.length →
   Ok tab R88 (.inLoop L88_0 :: .inBlock 0 :: K) #[.int .i64 (n : Nat),K1,K2,v,.int .i64 (i : Nat),K5,K6,K7,K8,K9,Ka,Kb,Kc,Kd,Ke] H R := by
 intro d
 induction d with
 | zero =>
  intro i H v;intros;rename_i hi ho hf hs hl
  obtain rfl : i = n := by omega
  rw [ok_round,l88_0,L88_0a,L88_0b]
  simp
  exact hk H v _ _ _ _ _ _ _ _ _ _ _ _ _ _ ho hf hs hl
 | succ d ih =>
  intro i H v;intros;rename_i hi ho hf hs hl
  have hlt : (i : Int) < (n : Int) := by omega
  obtain ⟨H1,ha,hb1,hlen1,hk1⟩ := app1v (v := .int .i64 2048) (bytes := 8) ho (by unfold roomCells; omega) (by omega)
  have hw : IntKind.i64.wrap ((i : Int) + 1) = ((i + 1 : Nat) : Int) := wrapN (n := i + 1) (by omega)
  have e : nI (List.replicate i 2048) ++ [.int .i64 2048] = nI (List.replicate (i + 1) 2048) := by rw [List.replicate_succ',nI,nI,List.map_append]; rfl
  rw [e] at hb1
  have ih' := fun K1 K2 K5 K6 K7 K8 K9 Ka Kb Kc Kd Ke => ih (i + 1) H1 (.slice (some ⟨H.length + 1,0,none⟩) (i + 1) 1) K1 K2 K5 K6 K7 K8 K9 Ka Kb Kc Kd Ke (by omega) ⟨by simp [nI],.inr ⟨_,rfl,hb1⟩⟩ (fun id hid => by simp [sid] at hid; omega) (fun id hid => by
   rw [hk1 id (by omega) (fun x => by have := hf id x; omega),hs id hid]) (by omega)
  generalize ((i + 1 : Nat) : Int) = i1 at *
  rw [ok_round,l88_0,L88_0a,L88_0b]
  simp [repL,hlt,ha,hw]
  exact ih' ..
theorem initial_x {n : Nat} (hn : n ≤ 1000) :
  ∃ v h',(∀ R,Ret tab 88 [.int .i64 (n : Nat)] h R = R v h') ∧ OwnS h' 1 v n (nI (AE.base n)) ∧ (∀ id,sid v = some id → h.length ≤ id) ∧ (∀ id,id < h.length → blk? h' id = blk? h id) ∧ h.length ≤ h'.length := by
 have key : Ret tab 88 [.int .i64 (n : Nat)] h fun v h' => OwnS h' 1 v n (nI (AE.base n)) ∧ (∀ id,sid v = some id → h.length ≤ id) ∧ (∀ id,id < h.length → blk? h' id = blk? h id) ∧ h.length ≤ h'.length := by
  have L := fun K1 K2 K5 K6 K7 K8 K9 Ka Kb Kc Kd Ke => init_loop (R := fun v h' => OwnS h' 1 v n (nI (AE.base n)) ∧ (∀ id,sid v = some id → h.length ≤ id) ∧ (∀ id,id < h.length → blk? h' id = blk? h id) ∧ h.length ≤ h'.length) (h0 := h) hn (K := [.code (tlC 3 B88)])
   (fun H v K0 K1 K2 K4 K5 K6 K7 K8 K9 Ka Kb Kc Kd Ke a b c d => by
    simp only [nthC,tlC,fstC,B88]
    simp [fin88]
    exact ⟨a,b,c,d⟩) n 0 (h ++ [some ⟨false,[]⟩]) (.slice (some ⟨h.length,0,none⟩) 0 1) K1 K2 K5 K6 K7 K8 K9 Ka Kb Kc Kd Ke (by omega) ⟨rfl,.inr ⟨h.length,rfl,blk?_push_eq⟩⟩ (fun id hid => by simp [sid] at hid; omega) (fun id hid => blk?_push_lt hid) (by simp)
  rw [enter88,show B88 = .seq (nthC 0 B88) (.seq (nthC 1 B88) (.seq (nthC 2 B88) (tlC 3 B88))) from rfl]
  generalize hT : tlC 3 B88 = tl at *
  simp only [nthC,tlC,fstC,B88]
  simp [repL]
  exact L ..
 obtain ⟨v,h',ee,a,b,c,d⟩ := ret_ex key
 exact ⟨v,h',ee,a,b,c,d⟩
theorem newEnc_x : ∃ e pb lb h',(∀ R,Ret tab 45 [.int .i64 19] h R = R (.tuple #[ptr e,.int .i64 0]) h') ∧ XA h' e pb lb (AE.begin (AE.base 19)) ∧ (∀ id,ownX e pb lb id → h.length ≤ id) ∧ (∀ id,id < h.length → blk? h' id = blk? h id) ∧ h.length ≤ h'.length := by
 obtain ⟨v,H1,e1,o1,f1,k1,l1⟩ := initial_x (h := h) (n := 19) (by omega)
 obtain ⟨pb,rfl,hpb⟩ := o1.ne_nil (by omega)
 have lpb := blk?_lt hpb
 have bE : blk? (H1 ++ [some ⟨false,[.slice (some ⟨pb,0,none⟩) 19 1,.slice none 0 0,.int .i64 0,.bool false]⟩]) H1.length = some ⟨false,[.slice (some ⟨pb,0,none⟩) (AE.base 19).length 1,.slice none 0 0,.int .i64 0,.bool false]⟩ := by rw [blk?_push_eq]; simp [AE.base]
 obtain ⟨H2,e2,I2,k2,l2⟩ := begin_x bE (by rw [blk?_push_lt lpb]; exact hpb) (by omega) (base_ok 19) (by simp [AE.base])
 refine ⟨H1.length,pb,_,H2,fun R => ?_,I2,fun id hid => ?_,fun id hid => ?_,by simp at l2; omega⟩
 ·have e1' : ∀ R,Ret tab 88 [.int .i64 19] h R = R (.slice (some ⟨pb,0,none⟩) 19 1) H1 := e1
  rw [enter45,B45]
  simp [k_guard,k_guardU,repL,e1',e2,fin45]
 ·rcases hid with rfl | rfl | rfl
  ·exact l1
  ·exact f1 _ rfl
  ·simp; omega
 ·rw [k2 id (by simp; omega) (by omega),blk?_push_lt (by omega),k1 id hid]
theorem reset_x (I : XA h e pb lb a) (h19 : a.p.length ≤ 1000) : ∃ h' pb',(∀ R,Ret tab 91 [ptr e] h R = R (.tuple #[]) h') ∧ XA h' e pb' lb a.setBack ∧ SF h h' (ownX e pb lb) (ownX e pb' lb) := by
 obtain ⟨v,H1,e1,o1,f1,k1,l1⟩ := initial_x (h := h) (n := a.p.length) h19
 have hpos := I.pos
 obtain ⟨pb',rfl,hpb⟩ := o1.ne_nil (by omega)
 have lpb := blk?_lt hpb
 have fpb := f1 pb' rfl
 have le := blk?_lt I.blk
 have ll := blk?_lt I.lblk
 have b1 : blk? H1 e = some ⟨false,[.slice (some ⟨pb,0,none⟩) a.p.length 1,.slice (some ⟨lb,0,none⟩) a.ds.length 1,.int .i64 (a.size : Nat),.bool a.begun]⟩ := by rw [k1 e le]; exact I.blk
 refine ⟨H1.set e (some ⟨false,[.slice (some ⟨pb',0,none⟩) a.p.length 1,.slice (some ⟨lb,0,none⟩) a.ds.length 1,.int .i64 (a.size : Nat),.bool a.begun]⟩),pb',fun R => ?_,⟨?_,?_,?_,by omega,I.ne2,by omega,⟨base_ok _,I.ok.dig,I.ok.len,I.ok.s1,I.ok.s2,I.ok.top⟩,by simpa [AE.setBack,AE.base] using I.pos⟩,⟨by simp; omega,fun id hid hno => ?_,fun id hid => ?_⟩⟩
 ·have hb := I.blk
  rw [enter91,B91]
  simp [hb,e1,b1,fin91]
 ·rw [blk?_set_eq (by omega)]; simp [AE.setBack,AE.base]
 ·rw [blk?_set_ne (by omega),hpb]; rfl
 ·rw [blk?_set_ne I.ne2,k1 lb ll]; exact I.lblk
 ·rw [blk?_set_ne (fun x => hno (.inl x.symm)),k1 id hid]
 ·rcases hid with hid | hid | hid
  ·exact .inl (.inl hid)
  ·exact .inr ⟨by omega,by simp; omega⟩
  ·exact .inl (.inr (.inr hid))
theorem size_x (I : XA h e pb lb a) : Ret tab 95 [ptr e] h R = R (.int .i64 ((if a.begun = true then a.ds.length else 0 : Nat) : Int)) h := by
 have h1 := I.blk
 have hpn : a.p ≠ [] := fun x => by have := I.pos; rw [x] at this; simp at this
 have hp0' : (((a.p.length : Nat) : Int) == 0) = false := by rw [beq_eq_false_iff_ne]; have := I.pos; omega
 rw [enter95,B95]
 cases hbg : a.begun with
 | false =>
  rw [hbg] at h1
  simp [k_guard,k_guardU,h1,hp0',hpn,fin95]
 | true =>
  rw [hbg] at h1
  simp [k_guard,k_guardU,h1,hp0',hpn,fin95]
end
set_option maxRecDepth 10000
theorem trim_snoc (x : Nat) : ∀ u : List Nat,trim (u ++ [x]) = if x = 0 then trim u else u ++ [x]
 | [] => by simp [trim]
 | d :: u => by
  have ih := trim_snoc x u
  rw [List.cons_append,trim,ih]
  by_cases hx : x = 0
  ·rw [if_pos hx,if_pos hx,trim]
  ·rw [if_neg hx,if_neg hx]
   cases u with
   | nil => rfl
   | cons y u => rfl
theorem slice_to {H : Heap} {b : Value} {n m : Nat} {cs : List Value} (ho : OwnS H 1 b n cs) (hm : m ≤ n) : ∃ w,sliceV 1 b none (some (.int .i64 (m : Nat))) = some w ∧ Sl H 1 w m (cs.take m) ∧ (∀ id,sid w = some id → sid b = some id) := by
 have hlen := ho.1
 rcases ho.2 with ⟨rfl,h0⟩ | ⟨id,rfl,hb⟩
 ·obtain rfl : m = 0 := by omega
  exact ⟨.slice none 0 0,by simp [sliceV,bndO,bnd],⟨by simp,.inl ⟨rfl,rfl⟩⟩,fun id hid => hid⟩
 ·refine ⟨.slice (some ⟨id,0,none⟩) m 1,?_,⟨by rw [List.length_take]; omega,.inr ⟨id,0,rfl,.inr ⟨_,hb,by simp; omega,by simp⟩⟩⟩,fun id' hid => by simpa [sid] using hid⟩
  have h1 : ((m : Int)) ≤ n := by omega
  simp [sliceV,bndO,bnd,h1]
theorem upR_facts {ds v : List Nat} {k size : Nat} (hd : Dig ds) (hk : k ≤ ds.length) (h : upR ds k size = some v) : Dig v ∧ v.length = ds.length := by
 have htl : (ds.take (ds.length - k)).length = ds.length - k := by rw [List.length_take]; omega
 unfold upR at h
 split at h
 ·injection h with h; subst h
  exact ⟨(hd.take _).app (dig_rep k),by rw [List.length_append,htl,List.length_replicate]; omega⟩
 ·split at h
  ·cases h
  ·split at h
   ·injection h with h; subst h
    exact ⟨(addD_dig _ _).app (dig_rep k),by rw [List.length_append,addD_len,htl,List.length_replicate]; omega⟩
   ·cases h
section
variable {h : Heap} {R : Value → Heap → Prop} {e pb lb : Nat} {a : AE}
theorem tin_loop {hB : Heap} {v : List Nat} {vb : Nat} (hd : Dig v) (hl : v.length < 1000000000) {K : List RItem}
  (hk : ∀ (H : Heap) (b : Value) (K1 K2 K4 K5 K6 K8 K9 Ka Kb Kc Kd Ke Kf Kg Kh Ki Kj Kk Kl Km Kn Ko Kp Kq Kr Ks Kt Ku Kv Kw Kx Ky Kz J0 J1 J2 J3 J4 J5 J6 J7 J8 J9 Ja Jb Jc Jd Je Jf Jg Jh Ji Jj Jk Jl Jm Jn Jo Jp Jq Jr Js Jt Ju Jv Jw Jx Jy : Value),OwnS H 1 b v.length (nU v) → (∀ id,sid b = some id → hB.length ≤ id) → (∀ id,id < hB.length → blk? H id = blk? hB id) → hB.length ≤ H.length → Ok tab R97 K #[ptr e,K1,K2,b,K4,K5,K6,.int .i64 ((trim v).length : Nat),K8,K9,Ka,Kb,Kc,Kd,Ke,Kf,Kg,Kh,Ki,Kj,Kk,Kl,Km,Kn,Ko,Kp,Kq,Kr,Ks,Kt,Ku,Kv,Kw,Kx,Ky,Kz,J0,J1,J2,J3,J4,J5,J6,J7,J8,J9,Ja,Jb,Jc,Jd,Je,Jf,Jg,Jh,Ji,Jj,Jk,Jl,Jm,Jn,Jo,Jp,Jq,Jr,Js,Jt,Ju,Jv,Jw,Jx,Jy] H R) :
  ∀ (d i : Nat) (H : Heap) (b : Value) (K1 K2 K4 K6 K9 Ka Kb Kc Kd Ke Kf Kg Kh Ki Kj Kk Kl Km Kn Ko Kp Kq Kr Ks Kt Ku Kv Kw Kx Ky Kz J0 J1 J2 J3 J4 J5 J6 J7 J8 J9 Ja Jb Jc Jd Je Jf Jg Jh Ji Jj Jk Jl Jm Jn Jo Jp Jq Jr Js Jt Ju Jv Jw Jx Jy : Value),i + d = v.length → blk? H vb = some ⟨false,nI v⟩ → sid b ≠ some vb → OwnS H 1 b i (nU (v.take i)) → (∀ id,sid b = some id → hB.length ≤ id) → (∀ id,id < hB.length → blk? H id = blk? hB id) → hB.length ≤ H.length →
   Ok tab R97 (.inLoop L97_0 :: .inBlock 2 :: K) #[ptr e,K1,K2,b,K4,.slice (some ⟨vb,0,none⟩) v.length 1,K6,.int .i64 ((trim (v.take i)).length : Nat),.int .i64 (i : Nat),K9,Ka,Kb,Kc,Kd,Ke,Kf,Kg,Kh,Ki,Kj,Kk,Kl,Km,Kn,Ko,Kp,Kq,Kr,Ks,Kt,Ku,Kv,Kw,Kx,Ky,Kz,J0,J1,J2,J3,J4,J5,J6,J7,J8,J9,Ja,Jb,Jc,Jd,Je,Jf,Jg,Jh,Ji,Jj,Jk,Jl,Jm,Jn,Jo,Jp,Jq,Jr,Js,Jt,Ju,Jv,Jw,Jx,Jy] H R := by
 intro d
 induction d with
 | zero =>
  intro i H b;intros;rename_i hi hv hne ho hf hs hle
  obtain rfl : i = v.length := by omega
  rw [List.take_of_length_le (Nat.le_refl _)] at ho ⊢
  rw [ok_round,l97_0,L97_0a,L97_0b]
  simp
  exact hk H b _ _ _ _ _ _ _ _ _ _ _ _ _ _ _ _ _ _ _ _ _ _ _ _ _ _ _ _ _ _ _ _ _ _ _ _ _ _ _ _ _ _ _ _ _ _ _ _ _ _ _ _ _ _ _ _ _ _ _ _ _ _ _ _ _ _ _ _ ho hf hs hle
 | succ d ih =>
  intro i H b;intros;rename_i hi hv hne ho hf hs hle
  have hil : i < v.length := by omega
  have hlt : (i : Int) < (v.length : Int) := by omega
  have hx : v[i] < 256 := hd _ (List.getElem_mem hil)
  have lvb := blk?_lt hv
  have hg : (nI v)[i]? = some (.int .i64 (v[i] : Nat)) := by rw [nI_get hil,List.getD_eq_getElem?_getD,List.getElem?_eq_getElem hil]; rfl
  have g1 := get_of hg
  have wu : IntKind.u8.wrap ((v[i] : Nat) : Int) = (v[i] : Nat) := by rw [IntKind.wrap_u8]; omega
  obtain ⟨H1,ha,hb1,hlen1,hk1⟩ := app1v (v := .int .u8 (v[i] : Nat)) (bytes := 1) ho (by unfold roomCells; omega) (by omega)
  have hw : IntKind.i64.wrap ((i : Int) + 1) = ((i + 1 : Nat) : Int) := wrapN (n := i + 1) (by omega)
  have etk : v.take (i + 1) = v.take i ++ [v[i]] := List.take_succ_eq_append_getElem hil
  have e : nU (v.take i) ++ [.int .u8 ((v[i] : Nat) : Int)] = nU (v.take (i + 1)) := by rw [etk,nU,nU,List.map_append]; rfl
  rw [e] at hb1
  have hv1 : blk? H1 vb = some ⟨false,nI v⟩ := by rw [hk1 vb lvb hne]; exact hv
  have ih' := fun K1 K2 K4 K6 K9 Ka Kb Kc Kd Ke Kf Kg Kh Ki Kj Kk Kl Km Kn Ko Kp Kq Kr Ks Kt Ku Kv Kw Kx Ky Kz J0 J1 J2 J3 J4 J5 J6 J7 J8 J9 Ja Jb Jc Jd Je Jf Jg Jh Ji Jj Jk Jl Jm Jn Jo Jp Jq Jr Js Jt Ju Jv Jw Jx Jy => ih (i + 1) H1 (.slice (some ⟨H.length + 1,0,none⟩) (i + 1) 1) K1 K2 K4 K6 K9 Ka Kb Kc Kd Ke Kf Kg Kh Ki Kj Kk Kl Km Kn Ko Kp Kq Kr Ks Kt Ku Kv Kw Kx Ky Kz J0 J1 J2 J3 J4 J5 J6 J7 J8 J9 Ja Jb Jc Jd Je Jf Jg Jh Ji Jj Jk Jl Jm Jn Jo Jp Jq Jr Js Jt Ju Jv Jw Jx Jy (by omega) hv1 (by simp [sid]; omega) ⟨by simp [nU]; omega,.inr ⟨_,rfl,hb1⟩⟩ (fun id hid => by simp [sid] at hid; omega) (fun id hid => by
   rw [hk1 id (by omega) (fun x => by have := hf id x; omega),hs id hid]) (by omega)
  rw [etk,trim_snoc] at ih'
  have ll : (v.take i).length = i := by rw [List.length_take]; omega
  clear hk ih
  generalize hi1 : ((i + 1 : Nat) : Int) = i1 at *
  rw [ok_round,l97_0,L97_0a,L97_0b]
  by_cases hx0 : v[i] = 0
  ·rw [if_pos hx0] at ih'
   have hne0 : (((v[i] : Nat) : Int) != 0) = false := by simp [hx0]
   generalize ((trim (v.take i)).length : Int) = tl at *
   generalize ((v[i] : Nat) : Int) = xi at *
   generalize nI v = C at *
   simp [repL,hlt,hil,hv,hg,g1,wu,ha,hv1,hne0,hw]
   exact ih' ..
  ·rw [if_neg hx0,List.length_append,ll,List.length_singleton,hi1] at ih'
   have hne0 : (((v[i] : Nat) : Int) != 0) = true := by simp [hx0]
   generalize ((trim (v.take i)).length : Int) = tl at *
   generalize ((v[i] : Nat) : Int) = xi at *
   generalize nI v = C at *
   simp [repL,hlt,hil,hv,hg,g1,wu,ha,hv1,hne0,hw]
   exact ih' ..
theorem tout_loop {ds : List Nat} {size : Nat} {pv bgv : Value} {hB : Heap} {lb : Nat} (hbe : blk? hB e = some ⟨false,[pv,.slice (some ⟨lb,0,none⟩) ds.length 1,.int .i64 (size : Nat),bgv]⟩) (hlb : blk? hB lb = some ⟨false,nI ds⟩) (hd : Dig ds) (h0 : 0 < ds.length) (hl : ds.length < 1000000000) (hs : size < 4294967296) {K : List RItem}
  (hk : ∀ (H : Heap) (w : Value) (T : List Nat) (K1 K2 K4 K5 K6 K7 K8 K9 Ka Kb Kc Kd Ke Kf Kg Kh Ki Kj Kk Kl Km Kn Ko Kp Kq Kr Ks Kt Ku Kv Kw Kx Ky Kz J0 J1 J2 J3 J4 J5 J6 J7 J8 J9 Ja Jb Jc Jd Je Jf Jg Jh Ji Jj Jk Jl Jm Jn Jo Jp Jq Jr Js Jt Ju Jv Jw Jx Jy : Value),T = firstUp ds size ds.length → Sl H 1 w T.length (nU T) → (∀ id,sid w = some id → hB.length ≤ id ∧ id < H.length) → (∀ id,id < hB.length → blk? H id = blk? hB id) → hB.length ≤ H.length → Ok tab R97 K #[ptr e,K1,K2,w,K4,K5,K6,K7,K8,K9,Ka,Kb,Kc,Kd,Ke,Kf,Kg,Kh,Ki,Kj,Kk,Kl,Km,Kn,Ko,Kp,Kq,Kr,Ks,Kt,Ku,Kv,Kw,Kx,Ky,Kz,J0,J1,J2,J3,J4,J5,J6,J7,J8,J9,Ja,Jb,Jc,Jd,Je,Jf,Jg,Jh,Ji,Jj,Jk,Jl,Jm,Jn,Jo,Jp,Jq,Jr,Js,Jt,Ju,Jv,Jw,Jx,Jy] H R) :
  ∀ (k : Nat) (H : Heap) (b : Value) (K1 K2 K5 K6 K7 K8 K9 Ka Kb Kc Kd Ke Kf Kg Kh Ki Kj Kk Kl Km Kn Ko Kp Kq Kr Ks Kt Ku Kv Kw Kx Ky Kz J0 J1 J2 J3 J4 J5 J6 J7 J8 J9 Ja Jb Jc Jd Je Jf Jg Jh Ji Jj Jk Jl Jm Jn Jo Jp Jq Jr Js Jt Ju Jv Jw Jx Jy : Value),k ≤ ds.length → firstUp ds size k = firstUp ds size ds.length → OwnS H 1 b 0 [] → (∀ id,sid b = some id → hB.length ≤ id) → (∀ id,id < hB.length → blk? H id = blk? hB id) → hB.length ≤ H.length →
   Ok tab R97 (.inLoop L97_1 :: .inBlock 0 :: K) #[ptr e,K1,K2,b,.int .i64 (k : Nat),K5,K6,K7,K8,K9,Ka,Kb,Kc,Kd,Ke,Kf,Kg,Kh,Ki,Kj,Kk,Kl,Km,Kn,Ko,Kp,Kq,Kr,Ks,Kt,Ku,Kv,Kw,Kx,Ky,Kz,J0,J1,J2,J3,J4,J5,J6,J7,J8,J9,Ja,Jb,Jc,Jd,Je,Jf,Jg,Jh,Ji,Jj,Jk,Jl,Jm,Jn,Jo,Jp,Jq,Jr,Js,Jt,Ju,Jv,Jw,Jx,Jy] H R := by
 intro k
 have le := blk?_lt hbe
 have llb := blk?_lt hlb
 induction k with
 | zero =>
  intro H b K1 K2 K5 K6 K7 K8 K9 Ka Kb Kc Kd Ke Kf Kg Kh Ki Kj Kk Kl Km Kn Ko Kp Kq Kr Ks Kt Ku Kv Kw Kx Ky Kz J0 J1 J2 J3 J4 J5 J6 J7 J8 J9 Ja Jb Jc Jd Je Jf Jg Jh Ji Jj Jk Jl Jm Jn Jo Jp Jq Jr Js Jt Ju Jv Jw Jx Jy hkl hfu ho hf hsm hle
  have hbe1 : blk? H e = some ⟨false,[pv,.slice (some ⟨lb,0,none⟩) ds.length 1,.int .i64 (size : Nat),bgv]⟩ := by rw [hsm e le]; exact hbe
  have hlb1 : blk? H lb = some ⟨false,nI ds⟩ := by rw [hsm lb llb]; exact hlb
  obtain ⟨w,ok,H1,e1,u1,k1,l1⟩ := up_c hlb1 hd h0 hl (show 0 ≤ ds.length by omega) hs
  obtain ⟨v,hv⟩ : ∃ v,upR ds 0 size = some v := ⟨ds.take (ds.length - 0) ++ List.replicate 0 0,by unfold upR; rw [if_pos (by simp [val])]⟩
  rw [hv] at u1
  have hfv : firstUp ds size ds.length = trim v := by rw [← hfu,firstUp,hv]
  obtain ⟨rfl,vb,rfl,hvb,fvb⟩ := u1
  obtain ⟨vd,vl⟩ := upR_facts hd (show 0 ≤ ds.length by omega) hv
  have ho1 : OwnS H1 1 b 0 [] := ho.of_blk fun id hid hb => by rw [k1 id (ho.lt hid)]; exact hb
  have L := fun K1 K2 K4 K6 K9 Ka Kb Kc Kd Ke Kf Kg Kh Ki Kj Kk Kl Km Kn Ko Kp Kq Kr Ks Kt Ku Kv Kw Kx Ky Kz J0 J1 J2 J3 J4 J5 J6 J7 J8 J9 Ja Jb Jc Jd Je Jf Jg Jh Ji Jj Jk Jl Jm Jn Jo Jp Jq Jr Js Jt Ju Jv Jw Jx Jy => tin_loop (R := R) (e := e) (hB := hB) (vb := vb) vd (by omega) (K := .code (tlC 4 (inB (fstC L97_1b))) :: .inBlock 1 :: .code (tlC 1 L97_1b) :: .inLoop L97_1 :: .inBlock 0 :: K) (fun H2 b2 K1 K2 K4 K5 K6 K8 K9 Ka Kb Kc Kd Ke Kf Kg Kh Ki Kj Kk Kl Km Kn Ko Kp Kq Kr Ks Kt Ku Kv Kw Kx Ky Kz J0 J1 J2 J3 J4 J5 J6 J7 J8 J9 Ja Jb Jc Jd Je Jf Jg Jh Ji Jj Jk Jl Jm Jn Jo Jp Jq Jr Js Jt Ju Jv Jw Jx Jy o2 f2 k2 l2 => by
   obtain ⟨w2,s1,s2,s3⟩ := slice_to (m := (trim v).length) o2 (trim_len v)
   have s2' : Sl H2 1 w2 (trim v).length (nU (trim v)) := by
    obtain ⟨t1,_,_⟩ := trim_spec v
    have e2 : (nU v).take (trim v).length = nU (trim v) := by
     have e2 : nU (trim v) = nU (v.take (trim v).length) := congrArg nU t1
     rw [e2,nU,nU,List.map_take]
    rw [← e2]; exact s2
   have fin' := fun K1 K2 K4 K5 K6 K7 K8 K9 Ka Kb Kc Kd Ke Kf Kg Kh Ki Kj Kk Kl Km Kn Ko Kp Kq Kr Ks Kt Ku Kv Kw Kx Ky Kz J0 J1 J2 J3 J4 J5 J6 J7 J8 J9 Ja Jb Jc Jd Je Jf Jg Jh Ji Jj Jk Jl Jm Jn Jo Jp Jq Jr Js Jt Ju Jv Jw Jx Jy => hk H2 w2 (trim v) K1 K2 K4 K5 K6 K7 K8 K9 Ka Kb Kc Kd Ke Kf Kg Kh Ki Kj Kk Kl Km Kn Ko Kp Kq Kr Ks Kt Ku Kv Kw Kx Ky Kz J0 J1 J2 J3 J4 J5 J6 J7 J8 J9 Ja Jb Jc Jd Je Jf Jg Jh Ji Jj Jk Jl Jm Jn Jo Jp Jq Jr Js Jt Ju Jv Jw Jx Jy hfv.symm s2' (fun id hid => ⟨f2 id (s3 id hid),o2.lt (s3 id hid)⟩) k2 l2
   simp only [nthC,tlC,fstC,inB,L97_1b]
   simp [s1]
   exact fin' ..) v.length 0 H1 b K1 K2 K4 K6 K9 Ka Kb Kc Kd Ke Kf Kg Kh Ki Kj Kk Kl Km Kn Ko Kp Kq Kr Ks Kt Ku Kv Kw Kx Ky Kz J0 J1 J2 J3 J4 J5 J6 J7 J8 J9 Ja Jb Jc Jd Je Jf Jg Jh Ji Jj Jk Jl Jm Jn Jo Jp Jq Jr Js Jt Ju Jv Jw Jx Jy (by omega) hvb (fun x => by have := ho.lt x; omega) (by rw [List.take_zero]; exact ho1) hf (fun id hid => by rw [k1 id (by omega),hsm id hid]) (by omega)
  simp only [List.take_zero] at L
  have et : (trim ([] : List Nat)).length = 0 := rfl
  rw [et] at L
  have e1' : ∀ R,Ret tab 132 [.slice (some ⟨lb,0,none⟩) ds.length 1,.int .i64 0,.int .i64 (size : Nat)] H R = R (.tuple #[.slice (some ⟨vb,0,none⟩) v.length 1,.bool true]) H1 := e1
  rw [ok_round,l97_1,L97_1a]
  generalize hL0 : L97_0 = L0 at *
  simp only [nthC,tlC,fstC,inB,L97_1b,hL0] at L ⊢
  simp [hbe1,e1']
  exact L ..
 | succ k ih =>
  intro H b K1 K2 K5 K6 K7 K8 K9 Ka Kb Kc Kd Ke Kf Kg Kh Ki Kj Kk Kl Km Kn Ko Kp Kq Kr Ks Kt Ku Kv Kw Kx Ky Kz J0 J1 J2 J3 J4 J5 J6 J7 J8 J9 Ja Jb Jc Jd Je Jf Jg Jh Ji Jj Jk Jl Jm Jn Jo Jp Jq Jr Js Jt Ju Jv Jw Jx Jy hkl hfu ho hf hsm hle
  have hbe1 : blk? H e = some ⟨false,[pv,.slice (some ⟨lb,0,none⟩) ds.length 1,.int .i64 (size : Nat),bgv]⟩ := by rw [hsm e le]; exact hbe
  have hlb1 : blk? H lb = some ⟨false,nI ds⟩ := by rw [hsm lb llb]; exact hlb
  obtain ⟨w,ok,H1,e1,u1,k1,l1⟩ := up_c hlb1 hd h0 hl hkl hs
  have hge : (0 : Int) ≤ ((k + 1 : Nat) : Int) := by omega
  have hw : IntKind.i64.wrap (((k + 1 : Nat) : Int) - 1) = (k : Int) := by rw [wrapI (by omega) (by omega)]; omega
  have ho1 : OwnS H1 1 b 0 [] := ho.of_blk fun id hid hb => by rw [k1 id (ho.lt hid)]; exact hb
  cases hv : upR ds (k + 1) size with
  | none =>
   rw [hv] at u1
   obtain ⟨rfl,rfl⟩ := u1
   have ih' := fun K1 K2 K5 K6 K7 K8 K9 Ka Kb Kc Kd Ke Kf Kg Kh Ki Kj Kk Kl Km Kn Ko Kp Kq Kr Ks Kt Ku Kv Kw Kx Ky Kz J0 J1 J2 J3 J4 J5 J6 J7 J8 J9 Ja Jb Jc Jd Je Jf Jg Jh Ji Jj Jk Jl Jm Jn Jo Jp Jq Jr Js Jt Ju Jv Jw Jx Jy => ih H1 b K1 K2 K5 K6 K7 K8 K9 Ka Kb Kc Kd Ke Kf Kg Kh Ki Kj Kk Kl Km Kn Ko Kp Kq Kr Ks Kt Ku Kv Kw Kx Ky Kz J0 J1 J2 J3 J4 J5 J6 J7 J8 J9 Ja Jb Jc Jd Je Jf Jg Jh Ji Jj Jk Jl Jm Jn Jo Jp Jq Jr Js Jt Ju Jv Jw Jx Jy (by omega) (by rw [← hfu,firstUp,hv]) ho1 hf (fun id hid => by rw [k1 id (by omega),hsm id hid]) (by omega)
   generalize ((k + 1 : Nat) : Int) = k1i at *
   rw [ok_round,l97_1,L97_1a]
   generalize hL0 : L97_0 = L0 at *
   generalize hL1 : L97_1 = L1 at *
   simp only [L97_1b,hL0]
   simp [hge,hbe1,e1,hw]
   exact ih' ..
  | some v =>
   rw [hv] at u1
   have hfv : firstUp ds size ds.length = trim v := by rw [← hfu,firstUp,hv]
   obtain ⟨rfl,vb,rfl,hvb,fvb⟩ := u1
   obtain ⟨vd,vl⟩ := upR_facts hd hkl hv
   have L := fun K1 K2 K4 K6 K9 Ka Kb Kc Kd Ke Kf Kg Kh Ki Kj Kk Kl Km Kn Ko Kp Kq Kr Ks Kt Ku Kv Kw Kx Ky Kz J0 J1 J2 J3 J4 J5 J6 J7 J8 J9 Ja Jb Jc Jd Je Jf Jg Jh Ji Jj Jk Jl Jm Jn Jo Jp Jq Jr Js Jt Ju Jv Jw Jx Jy => tin_loop (R := R) (e := e) (hB := hB) (vb := vb) vd (by omega) (K := .code (tlC 4 (inB (fstC L97_1b))) :: .inBlock 1 :: .code (tlC 1 L97_1b) :: .inLoop L97_1 :: .inBlock 0 :: K) (fun H2 b2 K1 K2 K4 K5 K6 K8 K9 Ka Kb Kc Kd Ke Kf Kg Kh Ki Kj Kk Kl Km Kn Ko Kp Kq Kr Ks Kt Ku Kv Kw Kx Ky Kz J0 J1 J2 J3 J4 J5 J6 J7 J8 J9 Ja Jb Jc Jd Je Jf Jg Jh Ji Jj Jk Jl Jm Jn Jo Jp Jq Jr Js Jt Ju Jv Jw Jx Jy o2 f2 k2 l2 => by
    obtain ⟨w2,s1,s2,s3⟩ := slice_to (m := (trim v).length) o2 (trim_len v)
    have s2' : Sl H2 1 w2 (trim v).length (nU (trim v)) := by
     obtain ⟨t1,_,_⟩ := trim_spec v
     have e2 : (nU v).take (trim v).length = nU (trim v) := by
      have e2 : nU (trim v) = nU (v.take (trim v).length) := congrArg nU t1
      rw [e2,nU,nU,List.map_take]
     rw [← e2]; exact s2
    have fin' := fun K1 K2 K4 K5 K6 K7 K8 K9 Ka Kb Kc Kd Ke Kf Kg Kh Ki Kj Kk Kl Km Kn Ko Kp Kq Kr Ks Kt Ku Kv Kw Kx Ky Kz J0 J1 J2 J3 J4 J5 J6 J7 J8 J9 Ja Jb Jc Jd Je Jf Jg Jh Ji Jj Jk Jl Jm Jn Jo Jp Jq Jr Js Jt Ju Jv Jw Jx Jy => hk H2 w2 (trim v) K1 K2 K4 K5 K6 K7 K8 K9 Ka Kb Kc Kd Ke Kf Kg Kh Ki Kj Kk Kl Km Kn Ko Kp Kq Kr Ks Kt Ku Kv Kw Kx Ky Kz J0 J1 J2 J3 J4 J5 J6 J7 J8 J9 Ja Jb Jc Jd Je Jf Jg Jh Ji Jj Jk Jl Jm Jn Jo Jp Jq Jr Js Jt Ju Jv Jw Jx Jy hfv.symm s2' (fun id hid => ⟨f2 id (s3 id hid),o2.lt (s3 id hid)⟩) k2 l2
    simp only [nthC,tlC,fstC,inB,L97_1b]
    simp [s1]
    exact fin' ..) v.length 0 H1 b K1 K2 K4 K6 K9 Ka Kb Kc Kd Ke Kf Kg Kh Ki Kj Kk Kl Km Kn Ko Kp Kq Kr Ks Kt Ku Kv Kw Kx Ky Kz J0 J1 J2 J3 J4 J5 J6 J7 J8 J9 Ja Jb Jc Jd Je Jf Jg Jh Ji Jj Jk Jl Jm Jn Jo Jp Jq Jr Js Jt Ju Jv Jw Jx Jy (by omega) hvb (fun x => by have := ho.lt x; omega) (by rw [List.take_zero]; exact ho1) hf (fun id hid => by rw [k1 id (by omega),hsm id hid]) (by omega)
   simp only [List.take_zero] at L
   have et : (trim ([] : List Nat)).length = 0 := rfl
   rw [et] at L
   generalize ((k + 1 : Nat) : Int) = k1i at *
   rw [ok_round,l97_1,L97_1a]
   generalize hL0 : L97_0 = L0 at *
   simp only [nthC,tlC,fstC,inB,L97_1b,hL0] at L ⊢
   simp [hge,hbe1,e1]
   exact L ..
theorem term_x (I : XA h e pb lb a) (hl : a.ds.length < 1000000000) :
  ∃ h' lb' w,(∀ R,Ret tab 97 [ptr e] h R = R w h') ∧ XA h' e pb lb' (AE.begin a.p) ∧ SF h h' (ownX e pb lb) (ownX e pb lb') ∧ Sl h' 1 w a.bytes.length (nU a.bytes) ∧ (∀ id,sid w = some id → h.length ≤ id ∧ id < h'.length ∧ ¬ ownX e pb lb' id) := by
 have key : ∀ R0 : Value → Heap → Prop,(∀ h' lb' w,XA h' e pb lb' (AE.begin a.p) → SF h h' (ownX e pb lb) (ownX e pb lb') → Sl h' 1 w a.bytes.length (nU a.bytes) → (∀ id,sid w = some id → h.length ≤ id ∧ id < h'.length ∧ ¬ ownX e pb lb' id) → R0 w h') → Ret tab 97 [ptr e] h R0 := by
  intro R0 hR
  have h1 := I.blk
  have le := blk?_lt I.blk
  have lp := blk?_lt I.pblk
  have ll := blk?_lt I.lblk
  have hpn : a.p ≠ [] := fun x => by have := I.pos; rw [x] at this; simp at this
  have hp0' : (((a.p.length : Nat) : Int) == 0) = false := by rw [beq_eq_false_iff_ne]; have := I.pos; omega
  have h4 := I.ok.len
  have L := fun K1 K2 K5 K6 K7 K8 K9 Ka Kb Kc Kd Ke Kf Kg Kh Ki Kj Kk Kl Km Kn Ko Kp Kq Kr Ks Kt Ku Kv Kw Kx Ky Kz J0 J1 J2 J3 J4 J5 J6 J7 J8 J9 Ja Jb Jc Jd Je Jf Jg Jh Ji Jj Jk Jl Jm Jn Jo Jp Jq Jr Js Jt Ju Jv Jw Jx Jy => tout_loop (R := R0) (hB := h) I.blk I.lblk I.ok.dig (by omega) hl I.ok.s2 (K := [.code (tlC 4 B97)]) (fun H w T K1 K2 K4 K5 K6 K7 K8 K9 Ka Kb Kc Kd Ke Kf Kg Kh Ki Kj Kk Kl Km Kn Ko Kp Kq Kr Ks Kt Ku Kv Kw Kx Ky Kz J0 J1 J2 J3 J4 J5 J6 J7 J8 J9 Ja Jb Jc Jd Je Jf Jg Jh Ji Jj Jk Jl Jm Jn Jo Jp Jq Jr Js Jt Ju Jv Jw Jx Jy hT sT fT kT lT => by
   rw [bytes_up I.ok] at hT
   subst hT
   have b1 : blk? H e = some ⟨false,[.slice (some ⟨pb,0,none⟩) a.p.length 1,.slice (some ⟨lb,0,none⟩) a.ds.length 1,.int .i64 (a.size : Nat),.bool a.begun]⟩ := by rw [kT e le]; exact h1
   obtain ⟨H2,e2,I2,k2,l2⟩ := begin_x b1 (by rw [kT pb lp]; exact I.pblk) I.ne1 I.ok.ps I.pos
   have hw : ∀ id,sid w = some id → id ≠ e := fun id hid x => by have := (fT id hid).1; omega
   have hR' := hR H2 H.length w I2 ⟨by omega,fun id hid hno => by rw [k2 id (by omega) (fun x => hno (.inl x)),kT id hid],fun id hid => by
    rcases hid with hid | hid | hid
    ·exact .inl (.inl hid)
    ·exact .inl (.inr (.inl hid))
    ·exact .inr ⟨by omega,by omega⟩⟩ (sT.of_sid fun id b hid hb => by rw [k2 id (fT id hid).2 (hw id hid)]; exact hb) (fun id hid => ⟨(fT id hid).1,by have := (fT id hid).2; omega,fun x => by
     have := (fT id hid)
     rcases x with x | x | x <;> omega⟩)
   simp only [nthC,tlC,fstC,B97]
   simp [e2,fin97]
   exact hR') a.ds.length (h ++ [some ⟨false,[]⟩]) (.slice (some ⟨h.length,0,none⟩) 0 1) K1 K2 K5 K6 K7 K8 K9 Ka Kb Kc Kd Ke Kf Kg Kh Ki Kj Kk Kl Km Kn Ko Kp Kq Kr Ks Kt Ku Kv Kw Kx Ky Kz J0 J1 J2 J3 J4 J5 J6 J7 J8 J9 Ja Jb Jc Jd Je Jf Jg Jh Ji Jj Jk Jl Jm Jn Jo Jp Jq Jr Js Jt Ju Jv Jw Jx Jy (Nat.le_refl _) rfl ⟨rfl,.inr ⟨h.length,rfl,blk?_push_eq⟩⟩ (fun id hid => by simp [sid] at hid; omega) (fun id hid => blk?_push_lt hid) (by simp)
  have hb' : blk? (h ++ [some ⟨false,[]⟩]) e = some ⟨false,[.slice (some ⟨pb,0,none⟩) a.p.length 1,.slice (some ⟨lb,0,none⟩) a.ds.length 1,.int .i64 (a.size : Nat),.bool a.begun]⟩ := by rw [blk?_push_lt le]; exact h1
  rw [enter97,show B97 = .seq (nthC 0 B97) (.seq (nthC 1 B97) (.seq (nthC 2 B97) (.seq (nthC 3 B97) (tlC 4 B97)))) from rfl]
  generalize hT : tlC 4 B97 = tl at *
  simp only [nthC,tlC,fstC,B97]
  simp [k_guard,k_guardU,repL,h1,hp0',hpn,hb']
  exact L ..
 obtain ⟨v,h',ee,lb',a1,a2,a3,a4⟩ := ret_ex (key (fun v h' => ∃ lb',XA h' e pb lb' (AE.begin a.p) ∧ SF h h' (ownX e pb lb) (ownX e pb lb') ∧ Sl h' 1 v a.bytes.length (nU a.bytes) ∧ (∀ id,sid v = some id → h.length ≤ id ∧ id < h'.length ∧ ¬ ownX e pb lb' id)) fun h' lb' w x y z u => ⟨lb',x,y,z,u⟩)
 exact ⟨h',lb',v,ee,a1,a2,a3,a4⟩
end
set_option maxRecDepth 10000
structure WX (h : Heap) (q : Nat) (sv : Value) (bs : List Nat) : Prop where
 blk : blk? h q = some ⟨false,[.bool true,sv]⟩
 own : OwnS h 1 sv bs.length (nI bs)
 ne : sid sv ≠ some q
 bits : AreBits bs
theorem WX.own_lt {h : Heap} {q : Nat} {sv : Value} {bs : List Nat} (J : WX h q sv bs) {id : Nat} (hid : ownR q sv id) : id < h.length := by
 rcases hid with rfl | hid
 ·exact blk?_lt J.blk
 ·exact J.own.lt hid
theorem WX.keep {h h' : Heap} {q : Nat} {sv : Value} {bs : List Nat} (J : WX h q sv bs) (hk : ∀ id,ownR q sv id → blk? h' id = blk? h id) : WX h' q sv bs :=
 ⟨by rw [hk q (.inl rfl)]; exact J.blk,J.own.of_blk fun id hid hb => by rw [hk id (.inr hid)]; exact hb,J.ne,J.bits⟩
theorem bytesOf_zero (m : Nat) : bytesOf [] m = List.replicate m 0 := by
 apply List.ext_getElem?
 intro j
 by_cases hj : j < m
 ·rw [bytesOf_get hj,List.getElem?_replicate,if_pos hj,byteAt_out (by simp)]
 ·rw [List.getElem?_eq_none (by rw [bytesOf_length]; omega),List.getElem?_eq_none (by simp; omega)]
theorem bytesOf_put {u : List Nat} {m : Nat} (hm : u.length / 8 < m) : (bytesOf u m).set (u.length / 8) (byteAt u (u.length / 8) + 2 ^ (7 - u.length % 8)) = bytesOf (u ++ [1]) m := by
 apply List.ext_getElem?
 intro j
 rw [List.getElem?_set,bytesOf_length]
 by_cases hj : j < m
 ·rw [bytesOf_get (bs := u ++ [1]) hj,byteAt_push]
  by_cases he : u.length / 8 = j
  ·rw [if_pos he,if_pos hm,if_pos he.symm,← he,Nat.one_mul]
  ·rw [if_neg he,if_neg (Ne.symm he),bytesOf_get hj]
 ·rw [if_neg (by omega),List.getElem?_eq_none (by rw [bytesOf_length]; omega),List.getElem?_eq_none (by rw [bytesOf_length]; omega)]
theorem bytesOf_skip {u : List Nat} {m : Nat} : bytesOf (u ++ [0]) m = bytesOf u m := by
 apply List.ext_getElem?
 intro j
 by_cases hj : j < m
 ·rw [bytesOf_get hj,bytesOf_get hj,byteAt_push]; simp
 ·rw [List.getElem?_eq_none (by rw [bytesOf_length]; omega),List.getElem?_eq_none (by rw [bytesOf_length]; omega)]
theorem one_shl : ∀ j : Fin 8,shlI .u8 1 ((j.1 : Nat) : Int) = ((2 ^ j.1 : Nat) : Int) := by decide
section
variable {h : Heap} {R : Value → Heap → Prop} {q : Nat} {sv : Value} {bs : List Nat}
theorem newW_x : (∀ R,Ret tab 90 [] h R = R (ptr h.length) (h ++ [some ⟨false,[.bool true,.slice none 0 0]⟩])) ∧ WX (h ++ [some ⟨false,[.bool true,.slice none 0 0]⟩]) h.length (.slice none 0 0) [] := by
 refine ⟨fun R => ?_,⟨blk?_push_eq,OwnS.nil _ _,by simp [sid],fun b hb => by cases hb⟩⟩
 rw [enter90,B90]
 simp [fin90]
theorem wput_x {b : Nat} (J : WX h q sv bs) (hb : b < 2) (hl : bs.length < 1000000) :
  ∃ h' sv',(∀ R,Ret tab 92 [ptr q,.int .i64 (b : Nat)] h R = R (.int .i64 0) h') ∧ WX h' q sv' (bs ++ [b]) ∧ SF h h' (ownR q sv) (ownR q sv') := by
 obtain ⟨H1,ha,hb1,hlen1,hk1⟩ := app1v (v := .int .i64 (b : Nat)) (bytes := 8) J.own (by unfold roomCells; omega) (by omega)
 have hq := J.blk
 have lq := blk?_lt J.blk
 have b1 : blk? H1 q = some ⟨false,[.bool true,sv]⟩ := by rw [hk1 q lq J.ne]; exact hq
 have n0 : ¬ ((b : Int) < 0) := by omega
 have n1 : ¬ ((1 : Int) < (b : Int)) := by omega
 obtain ⟨sa,sc,hsv⟩ := J.own.sl.shape
 refine ⟨H1.set q (some ⟨false,[.bool true,.slice (some ⟨h.length + 1,0,none⟩) (bs.length + 1) 1]⟩),.slice (some ⟨h.length + 1,0,none⟩) (bs.length + 1) 1,fun R => ?_,⟨blk?_set_eq (by omega),⟨by simp [nI],.inr ⟨h.length + 1,by simp,?_⟩⟩,by simp [sid]; omega,J.bits.push (by omega)⟩,⟨by simp; omega,fun id hid hno => ?_,fun id hid => ?_⟩⟩
 ·rw [enter92,B92]
  generalize ((b : Nat) : Int) = bi at *
  simp [k_guard,k_guardU,repL,hq,n0,n1,ha,b1,fin92]
 ·rw [blk?_set_ne (by omega),hb1]; simp [nI]
 ·rw [blk?_set_ne (fun x => hno (.inl x.symm)),hk1 id hid (fun x => hno (.inr x))]
 ·rcases hid with hid | hid
  ·exact .inl (.inl hid)
  ·simp [sid] at hid; exact .inr ⟨by omega,by simp; omega⟩
theorem wsize_x (J : WX h q sv bs) (hl : bs.length < 1000000) : Ret tab 94 [ptr q] h R = R (.int .i64 ((bs.length + 7) / 8 : Nat)) h := by
 have hq := J.blk
 obtain ⟨sa,sc,hsv⟩ := J.own.sl.shape
 rw [hsv] at hq
 have w1 : IntKind.i64.wrap ((bs.length : Int) + 7) = ((bs.length + 7 : Nat) : Int) := wrapN (n := bs.length + 7) (by omega)
 have w2 : ((bs.length + 7 : Nat) : Int).tdiv 8 = (((bs.length + 7) / 8 : Nat) : Int) := by rw [Int.tdiv_eq_ediv_of_nonneg (by omega)]; omega
 have w3 : IntKind.i64.wrap (((bs.length + 7) / 8 : Nat) : Int) = (((bs.length + 7) / 8 : Nat) : Int) := wrapN (by omega)
 generalize (((bs.length + 7) / 8 : Nat) : Int) = z at *
 generalize ((bs.length + 7 : Nat) : Int) = y at *
 rw [enter94,B94]
 simp [k_guard,k_guardU,hq,w1,w2,w3,fin94]
theorem wterm_loop {m vb : Nat} (J : WX h q sv bs) (hm : m = (bs.length + 7) / 8) (hl : bs.length < 1000000) (hvb : vb < h.length) (hvq : vb ≠ q) (hvs : sid sv ≠ some vb) {K : List RItem}
  (hk : ∀ (K1 K2 K5 K6 K7 K8 K9 Ka Kb Kc Kd Ke Kf Kg Kh Ki Kj Kk Kl Km Kn Ko Kp Kq Kr Ks Kt Ku Kv Kw Kx Ky Kz J0 J1 J2 J3 J4 J5 J6 J7 J8 J9 Ja Jb Jc Jd Je Jf Jg Jh Ji Jj : Value),Ok tab R96 K #[ptr q,K1,K2,.slice (some ⟨vb,0,none⟩) m 1,.int .i64 (endAt bs bs.length : Nat),K5,K6,K7,K8,K9,Ka,Kb,Kc,Kd,Ke,Kf,Kg,Kh,Ki,Kj,Kk,Kl,Km,Kn,Ko,Kp,Kq,Kr,Ks,Kt,Ku,Kv,Kw,Kx,Ky,Kz,J0,J1,J2,J3,J4,J5,J6,J7,J8,J9,Ja,Jb,Jc,Jd,Je,Jf,Jg,Jh,Ji,Jj] (h.set vb (some ⟨false,nU (pack bs)⟩)) R) :
  ∀ (d i : Nat) (K1 K2 K6 K7 K8 K9 Ka Kb Kc Kd Ke Kf Kg Kh Ki Kj Kk Kl Km Kn Ko Kp Kq Kr Ks Kt Ku Kv Kw Kx Ky Kz J0 J1 J2 J3 J4 J5 J6 J7 J8 J9 Ja Jb Jc Jd Je Jf Jg Jh Ji Jj : Value),i + d = bs.length →
   Ok tab R96 (.inLoop L96_0 :: .inBlock 0 :: K) #[ptr q,K1,K2,.slice (some ⟨vb,0,none⟩) m 1,.int .i64 (endAt bs i : Nat),.int .i64 (i : Nat),K6,K7,K8,K9,Ka,Kb,Kc,Kd,Ke,Kf,Kg,Kh,Ki,Kj,Kk,Kl,Km,Kn,Ko,Kp,Kq,Kr,Ks,Kt,Ku,Kv,Kw,Kx,Ky,Kz,J0,J1,J2,J3,J4,J5,J6,J7,J8,J9,Ja,Jb,Jc,Jd,Je,Jf,Jg,Jh,Ji,Jj] (h.set vb (some ⟨false,nU (bytesOf (bs.take i) m)⟩)) R := by
 intro d
 have hq : ∀ X,blk? (h.set vb X) q = some ⟨false,[.bool true,sv]⟩ := fun X => by rw [blk?_set_ne hvq]; exact J.blk
 have hv : ∀ X,blk? (h.set vb X) vb = X := fun X => blk?_set_eq hvb
 induction d with
 | zero =>
  intro i;intros;rename_i hi
  obtain rfl : i = bs.length := by omega
  obtain ⟨sa,sc,hsv⟩ := J.own.sl.shape
  rw [hsv] at hq
  rw [List.take_of_length_le (Nat.le_refl _),show bytesOf bs m = pack bs by rw [hm]; rfl]
  rw [ok_round,l96_0,L96_0a,L96_0b]
  simp [hq]
  exact hk ..
 | succ d ih =>
  intro i;intros;rename_i hi
  have hil : i < bs.length := by omega
  have hlt : (i : Int) < (bs.length : Int) := by omega
  have hw : IntKind.i64.wrap ((i : Int) + 1) = ((i + 1 : Nat) : Int) := wrapN (n := i + 1) (by omega)
  obtain ⟨sb,hsv,hsb⟩ := J.own.ne_nil (by omega)
  have hvs' : sb ≠ vb := fun x => hvs (by rw [hsv,x]; rfl)
  have hS : ∀ X,blk? (h.set vb X) sb = some ⟨false,nI bs⟩ := fun X => by rw [blk?_set_ne (Ne.symm hvs')]; exact hsb
  rw [hsv] at hq
  have hg : (nI bs)[i]? = some (.int .i64 (bs[i] : Nat)) := by rw [nI_get hil,List.getD_eq_getElem?_getD,List.getElem?_eq_getElem hil]; rfl
  have g1 := get_of hg
  have etk : bs.take (i + 1) = bs.take i ++ [bs[i]] := List.take_succ_eq_append_getElem hil
  have ll : (bs.take i).length = i := by rw [List.length_take]; omega
  have hbit := J.bits bs[i] (List.getElem_mem hil)
  have ih' := fun K1 K2 K6 K7 K8 K9 Ka Kb Kc Kd Ke Kf Kg Kh Ki Kj Kk Kl Km Kn Ko Kp Kq Kr Ks Kt Ku Kv Kw Kx Ky Kz J0 J1 J2 J3 J4 J5 J6 J7 J8 J9 Ja Jb Jc Jd Je Jf Jg Jh Ji Jj => ih (i + 1) K1 K2 K6 K7 K8 K9 Ka Kb Kc Kd Ke Kf Kg Kh Ki Kj Kk Kl Km Kn Ko Kp Kq Kr Ks Kt Ku Kv Kw Kx Ky Kz J0 J1 J2 J3 J4 J5 J6 J7 J8 J9 Ja Jb Jc Jd Je Jf Jg Jh Ji Jj (by omega)
  have eend : endAt bs (i + 1) = if bs[i] = 1 then i / 8 + 1 else endAt bs i := by
   rw [endAt,List.getD_eq_getElem?_getD,List.getElem?_eq_getElem hil]; rfl
  rw [eend,etk] at ih'
  have hbits' : AreBits (bs.take (i + 1)) := fun b hb => J.bits b (List.mem_of_mem_take hb)
  clear ih hk
  rw [ok_round,l96_0,L96_0a,L96_0b]
  by_cases hb1 : bs[i] = 1
  ·have hm8 : i / 8 < m := by omega
   have hput := bytesOf_put (u := bs.take i) (m := m) (by rw [ll]; exact hm8)
   rw [ll] at hput
   rw [if_pos hb1,hb1,← hput] at ih'
   have hlt256 := byteAt_lt hbits' (i / 8)
   rw [etk,hb1,byteAt_push,ll,if_pos rfl,Nat.one_mul] at hlt256
   have hg2 : (nU (bytesOf (bs.take i) m))[i / 8]? = some (.int .u8 (byteAt (bs.take i) (i / 8) : Nat)) := by
    rw [nU_get (by rw [bytesOf_length]; exact hm8),List.getD_eq_getElem?_getD,bytesOf_get hm8]; rfl
   have g2 := get_of hg2
   have hst := nU_set (xs := bytesOf (bs.take i) m) (i := i / 8) (v := byteAt (bs.take i) (i / 8) + 2 ^ (7 - i % 8))
   have hil2 : i / 8 + 1 ≤ (nU (bytesOf (bs.take i) m)).length := by rw [nU_len,bytesOf_length]; exact hm8
   have hil3 : i / 8 < (nU (bytesOf (bs.take i) m)).length := hil2
   have q1 : IntKind.i64.wrap ((i : Int).tdiv 8) = ((i / 8 : Nat) : Int) := by rw [Int.tdiv_eq_ediv_of_nonneg (by omega),wrapI (by omega) (by omega)]; omega
   have q2 : (0 : Int) ≤ ((i / 8 : Nat) : Int) := by omega
   have q3 : ((i / 8 : Nat) : Int) < (m : Int) := by omega
   have q4 : ((i / 8 : Nat) : Int).toNat = i / 8 := Int.toNat_natCast _
   have q5 : IntKind.i64.wrap (7 - (i : Int).tmod 8) = ((7 - i % 8 : Nat) : Int) := by rw [Int.tmod_eq_emod_of_nonneg (by omega),wrapI (by omega) (by omega)]; omega
   have q6 : ¬ ((7 - i % 8 : Nat) : Int) < 0 := by omega
   have q7 : IntKind.u64.wrap ((7 - i % 8 : Nat) : Int) = ((7 - i % 8 : Nat) : Int) := by rw [IntKind.wrap_u64]; omega
   have q8 := one_shl ⟨7 - i % 8,by omega⟩
   simp only at q8
   have q9 : IntKind.u8.wrap (((byteAt (bs.take i) (i / 8) : Nat) : Int) + ((2 ^ (7 - i % 8) : Nat) : Int)) = ((byteAt (bs.take i) (i / 8) + 2 ^ (7 - i % 8) : Nat) : Int) := by
    clear hput g2 hg2 hst ih' q8
    generalize 2 ^ (7 - i % 8) = P at *
    rw [← Int.natCast_add,IntKind.wrap_u8]; omega
   have q1' : IntKind.i64.wrap ((i : Int) / 8) = ((i / 8 : Nat) : Int) := by rw [wrapI (by omega) (by omega)]; omega
   have q10 : IntKind.i64.wrap (((i / 8 : Nat) : Int) + 1) = ((i / 8 + 1 : Nat) : Int) := wrapN (n := i / 8 + 1) (by omega)
   have hb1' : (((bs[i] : Nat) : Int) == 1) = true := by simp [hb1]
   clear hput etk eend
   generalize nI bs = C0 at *
   generalize nU ((bytesOf (bs.take i) m).set (i / 8) (byteAt (bs.take i) (i / 8) + 2 ^ (7 - i % 8))) = C2 at *
   generalize nU (bytesOf (bs.take i) m) = C1 at *
   generalize ((byteAt (bs.take i) (i / 8) + 2 ^ (7 - i % 8) : Nat) : Int) = y2 at *
   generalize ((2 ^ (7 - i % 8) : Nat) : Int) = y1 at *
   generalize ((byteAt (bs.take i) (i / 8) : Nat) : Int) = y0 at *
   generalize ((7 - i % 8 : Nat) : Int) = sh at *
   generalize ((i / 8 + 1 : Nat) : Int) = e8 at *
   generalize hi8 : ((i / 8 : Nat) : Int) = i8 at *
   generalize ((i + 1 : Nat) : Int) = i1 at *
   generalize ((bs[i] : Nat) : Int) = xi at *
   generalize i / 8 = n8 at *
   simp [hq,hlt,hil,hS,hg,g1,hb1',q1,q1',q2,q3,q4,q5,q6,q7,q8,q9,q10,hv,hg2,g2,hil2,hil3,hst,hm8,hw]
   exact ih' ..
  ·have h0 : bs[i] = 0 := by omega
   rw [if_neg hb1,h0,bytesOf_skip] at ih'
   have hb1' : (((bs[i] : Nat) : Int) == 1) = false := by simp [h0]
   generalize nI bs = C0 at *
   generalize ((i + 1 : Nat) : Int) = i1 at *
   generalize ((bs[i] : Nat) : Int) = xi at *
   simp [hq,hlt,hil,hS,hg,g1,hb1',hw]
   exact ih' ..
end
set_option maxRecDepth 10000
section
variable {h : Heap} {R : Value → Heap → Prop} {q : Nat} {sv : Value} {bs : List Nat}
theorem wterm_x (J : WX h q sv bs) (hl : bs.length < 1000000) :
  ∃ h' w,(∀ R,Ret tab 96 [ptr q] h R = R w h') ∧ Sl h' 1 w (segOf bs).length (nU (segOf bs)) ∧ (∀ id,sid w = some id → h.length ≤ id ∧ id < h'.length) ∧ (∀ id,id < h.length → id ≠ q → blk? h' id = blk? h id) ∧ h.length ≤ h'.length := by
 have key : ∀ R0 : Value → Heap → Prop,(∀ h' w,Sl h' 1 w (segOf bs).length (nU (segOf bs)) → (∀ id,sid w = some id → h.length ≤ id ∧ id < h'.length) → (∀ id,id < h.length → id ≠ q → blk? h' id = blk? h id) → h.length ≤ h'.length → R0 w h') → Ret tab 96 [ptr q] h R0 := by
  intro R0 hR
  have hq := J.blk
  have lq := blk?_lt J.blk
  obtain ⟨sa,sc,hsv⟩ := J.own.sl.shape
  have w1 : IntKind.i64.wrap ((bs.length : Int) + 7) = ((bs.length + 7 : Nat) : Int) := wrapN (n := bs.length + 7) (by omega)
  have w2 : ((bs.length + 7 : Nat) : Int).tdiv 8 = (((bs.length + 7) / 8 : Nat) : Int) := by rw [Int.tdiv_eq_ediv_of_nonneg (by omega)]; omega
  have w3 : IntKind.i64.wrap (((bs.length + 7) / 8 : Nat) : Int) = (((bs.length + 7) / 8 : Nat) : Int) := wrapN (by omega)
  have w4 : 0 ≤ (((bs.length + 7) / 8 : Nat) : Int) ∧ (((bs.length + 7) / 8 : Nat) : Int) ≤ (roomCells : Int) := by unfold roomCells; omega
  have w5 : ((((bs.length + 7) / 8 : Nat) : Int)).toNat = (bs.length + 7) / 8 := Int.toNat_natCast _
  obtain ⟨m,hm⟩ : ∃ m,m = (bs.length + 7) / 8 := ⟨_,rfl⟩
  rw [← hm] at w2 w3 w4 w5
  have hrep : repL [.int .u8 0] m = nU (bytesOf (bs.take 0) m) := by
   rw [List.take_zero,bytesOf_zero]
   have : ∀ n,repL [Value.int .u8 0] n = nU (List.replicate n 0) := by
    intro n
    induction n with
    | zero => rfl
    | succ n ih => rw [repL,ih,List.replicate_succ]; rfl
   exact this m
  have hJ1 : WX (h ++ [some ⟨false,nU (bytesOf (bs.take 0) m)⟩]) q sv bs := J.keep fun id hid => blk?_push_lt (J.own_lt hid)
  have e0 : (h ++ [some (⟨false,nU (bytesOf (bs.take 0) m)⟩ : Blk)]).set h.length (some ⟨false,nU (bytesOf (bs.take 0) m)⟩) = h ++ [some ⟨false,nU (bytesOf (bs.take 0) m)⟩] := by simp
  have L := fun K1 K2 K6 K7 K8 K9 Ka Kb Kc Kd Ke Kf Kg Kh Ki Kj Kk Kl Km Kn Ko Kp Kq Kr Ks Kt Ku Kv Kw Kx Ky Kz J0 J1 J2 J3 J4 J5 J6 J7 J8 J9 Ja Jb Jc Jd Je Jf Jg Jh Ji Jj => wterm_loop (R := R0) (q := q) (sv := sv) (bs := bs) (m := m) (h := h ++ [some ⟨false,nU (bytesOf (bs.take 0) m)⟩]) (vb := h.length) hJ1 hm hl (by simp) (Nat.ne_of_gt lq) (fun x => by have := J.own.lt x; omega) (K := [.code (tlC 5 B96)])
   (fun K1 K2 K5 K6 K7 K8 K9 Ka Kb Kc Kd Ke Kf Kg Kh Ki Kj Kk Kl Km Kn Ko Kp Kq Kr Ks Kt Ku Kv Kw Kx Ky Kz J0 J1 J2 J3 J4 J5 J6 J7 J8 J9 Ja Jb Jc Jd Je Jf Jg Jh Ji Jj => by
    generalize hG : (h ++ [some (⟨false,nU (bytesOf (bs.take 0) m)⟩ : Blk)]).set h.length (some ⟨false,nU (pack bs)⟩) = G
    have lG : G.length = h.length + 1 := by rw [← hG]; simp
    have bG : blk? G h.length = some ⟨false,nU (pack bs)⟩ := by rw [← hG]; exact blk?_set_eq (by simp)
    have kG : ∀ id,id < h.length → blk? G id = blk? h id := fun id hid => by rw [← hG,blk?_set_ne (by omega),blk?_push_lt hid]
    have qG : blk? G q = some ⟨false,[.bool true,sv]⟩ := by rw [kG q lq]; exact hq
    have hpl : (pack bs).length = m := by rw [pack_length,hm]
    have ho : OwnS (G.set q (some ⟨false,[.bool true,.slice none 0 0]⟩)) 1 (.slice (some ⟨h.length,0,none⟩) m 1) m (nU (pack bs)) := ⟨by simp [nU,hpl],.inr ⟨h.length,rfl,by rw [blk?_set_ne (by omega)]; exact bG⟩⟩
    have hend := endAt_le bs bs.length
    obtain ⟨w,s1,s2,s3⟩ := slice_to (m := endAt bs bs.length) ho (by omega)
    have hsl : (segOf bs).length = endAt bs bs.length := by rw [segOf,List.length_take,hpl]; omega
    have hR' := hR (G.set q (some ⟨false,[.bool true,.slice none 0 0]⟩)) w (by rw [hsl,segOf]; simpa [nU,List.map_take] using s2) (fun id hid => by have := s3 id hid; simp [sid] at this; simp; omega) (fun id hid hne => by rw [blk?_set_ne (Ne.symm hne),kG id hid]) (by simp; omega)
    simp only [nthC,tlC,fstC,B96]
    simp [qG,s1,fin96]
    exact hR') bs.length 0 K1 K2 K6 K7 K8 K9 Ka Kb Kc Kd Ke Kf Kg Kh Ki Kj Kk Kl Km Kn Ko Kp Kq Kr Ks Kt Ku Kv Kw Kx Ky Kz J0 J1 J2 J3 J4 J5 J6 J7 J8 J9 Ja Jb Jc Jd Je Jf Jg Jh Ji Jj (by omega)
  rw [e0] at L
  have hqP : blk? (h ++ [some ⟨false,nU (bytesOf (bs.take 0) m)⟩]) q = some ⟨false,[.bool true,sv]⟩ := by rw [blk?_push_lt lq]; exact hq
  rw [hsv] at hq hqP
  generalize hmi : ((m : Nat) : Int) = mi at *
  rw [enter96,show B96 = .seq (nthC 0 B96) (.seq (nthC 1 B96) (.seq (nthC 2 B96) (.seq (nthC 3 B96) (.seq (nthC 4 B96) (tlC 5 B96))))) from rfl]
  generalize hT : tlC 5 B96 = tl at *
  generalize hcl : nU (bytesOf (bs.take 0) m) = C at *
  generalize ((bs.length + 7 : Nat) : Int) = y at *
  have e00 : endAt bs 0 = 0 := rfl
  rw [e00] at L
  simp only [nthC,tlC,fstC,B96]
  simp [hq,w1,w2,w3,w4,w5,hrep]
  exact L ..
 obtain ⟨v,h',ee,a,b,c,d⟩ := ret_ex (key (fun v h' => Sl h' 1 v (segOf bs).length (nU (segOf bs)) ∧ (∀ id,sid v = some id → h.length ≤ id ∧ id < h'.length) ∧ (∀ id,id < h.length → id ≠ q → blk? h' id = blk? h id) ∧ h.length ≤ h'.length) fun h' w a b c d => ⟨a,b,c,d⟩)
 exact ⟨h',v,ee,a,b,c,d⟩
end
set_option maxRecDepth 10000
def szAt (m : MD) (n j : Nat) : Nat := if m.res = true then 1 else if m.byp = true then (if j = 0 then 10 else 1 + j % 2) else n
theorem szAt_next (m : MD) (n j : Nat) : sgNext m (szAt m n j) = szAt m n (j + 1) := by
 unfold sgNext szAt
 cases hr : m.res <;> cases hb : m.byp <;> simp
 by_cases h0 : j = 0
 ·subst h0; simp
 ·rw [if_neg h0]
  rcases Nat.mod_two_eq_zero_or_one j with h | h
  ·rw [h,if_neg (by omega)]; omega
  ·rw [h,if_pos rfl]; omega
theorem szAt_zero (m : MD) (n : Nat) : szAt m n 0 = sgFirst m n := by
 unfold szAt sgFirst
 cases hr : m.res <;> cases hb : m.byp <;> simp
section
variable {h : Heap} {R : Value → Heap → Prop}
theorem seg14_loop {hB : Heap} {X n : Nat} {m : MD} {T : List Nat} (hX : blk? hB X = some ⟨false,[.bool m.byp,.bool m.res,.bool m.rst,.bool m.cz,.bool m.sy]⟩) (hn : n ≤ 178) {K : List RItem}
  (hk : ∀ (H : Heap) (out : Value) (K0 K1 K2 K3 K4 K6 K7 K8 K9 Ka Kb Kc Kd Ke Kf Kg Kh Ki Kj Kk Kl Km Kn Ko Kp Kq Kr Ks Kt Ku Kv Kw Kx Ky Kz J0 J1 J2 J3 J4 J5 J6 J7 J8 : Value),OwnS H 1 out T.length (nI T) → (∀ id,sid out = some id → hB.length ≤ id) → (∀ id,id < hB.length → blk? H id = blk? hB id) → hB.length ≤ H.length → Ok tab R46 K #[K0,K1,K2,K3,K4,out,K6,K7,K8,K9,Ka,Kb,Kc,Kd,Ke,Kf,Kg,Kh,Ki,Kj,Kk,Kl,Km,Kn,Ko,Kp,Kq,Kr,Ks,Kt,Ku,Kv,Kw,Kx,Ky,Kz,J0,J1,J2,J3,J4,J5,J6,J7,J8] H R) :
  ∀ (f left : Nat) (gs : List Nat) (H : Heap) (out : Value) (K0 K1 K2 K4 K7 K8 K9 Ka Kb Kc Kd Ke Kf Kg Kh Ki Kj Kk Kl Km Kn Ko Kp Kq Kr Ks Kt Ku Kv Kw Kx Ky Kz J0 J1 J2 J3 J4 J5 J6 J7 J8 : Value),left ≤ f → left ≤ n → gs.length + left ≤ n → gs ++ sgGo m f (szAt m n gs.length) left = T → OwnS H 1 out gs.length (nI gs) → (∀ id,sid out = some id → hB.length ≤ id) → (∀ id,id < hB.length → blk? H id = blk? hB id) → hB.length ≤ H.length →
   Ok tab R46 (.inLoop L46_0 :: .inBlock 0 :: K) #[K0,K1,K2,ptr X,K4,out,.int .i64 (left : Nat),K7,K8,K9,Ka,Kb,Kc,Kd,Ke,Kf,Kg,Kh,Ki,Kj,Kk,Kl,Km,Kn,Ko,Kp,Kq,Kr,Ks,Kt,Ku,Kv,Kw,Kx,Ky,Kz,J0,J1,J2,J3,J4,J5,J6,J7,J8] H R := by
 intro f
 induction f with
 | zero =>
  intro left gs H out;intros;rename_i hl hln hgl hgo ho hf hs hle
  obtain rfl : left = 0 := by omega
  simp only [sgGo,List.append_nil] at hgo
  rw [hgo] at ho
  rw [ok_round,l46_0,L46_0a,L46_0b]
  simp
  exact hk H out _ _ _ _ _ _ _ _ _ _ _ _ _ _ _ _ _ _ _ _ _ _ _ _ _ _ _ _ _ _ _ _ _ _ _ _ _ _ _ _ _ _ _ _ ho hf hs hle
 | succ f ih =>
  intro left gs H out;intros;rename_i hl hln hgl hgo ho hf hs hle
  by_cases h0 : left = 0
  ·subst h0
   unfold sgGo at hgo
   rw [if_pos rfl,List.append_nil] at hgo
   rw [hgo] at ho
   rw [ok_round,l46_0,L46_0a,L46_0b]
   simp
   exact hk H out _ _ _ _ _ _ _ _ _ _ _ _ _ _ _ _ _ _ _ _ _ _ _ _ _ _ _ _ _ _ _ _ _ _ _ _ _ _ _ _ _ _ _ _ ho hf hs hle
  have hpos : (0 : Int) < (left : Int) := by omega
  have hpos' : 0 < left := by omega
  have w0 : IntKind.i64.wrap 0 = 0 := by decide
  have lX := blk?_lt hX
  have hXH : blk? H X = some ⟨false,[.bool m.byp,.bool m.res,.bool m.rst,.bool m.cz,.bool m.sy]⟩ := by rw [hs X lX]; exact hX
  obtain ⟨oa,oc,hout⟩ := ho.sl.shape
  have next : ∀ c : Nat,c = min (szAt m n gs.length) left → 1 ≤ c → ∃ H1,appendV (H ++ [some ⟨false,[.int .i64 (c : Nat)]⟩]) 1 8 out (.slice (some ⟨H.length,0,none⟩) 1 1) = some (.slice (some ⟨H.length + 1,0,none⟩) (gs.length + 1) 1,H1) ∧
    IntKind.i64.wrap ((left : Int) - (c : Nat)) = ((left - c : Nat) : Int) ∧
    ∀ (K0 K1 K2 K4 K7 K8 K9 Ka Kb Kc Kd Ke Kf Kg Kh Ki Kj Kk Kl Km Kn Ko Kp Kq Kr Ks Kt Ku Kv Kw Kx Ky Kz J0 J1 J2 J3 J4 J5 J6 J7 J8 : Value),Ok tab R46 (.inLoop L46_0 :: .inBlock 0 :: K) #[K0,K1,K2,ptr X,K4,.slice (some ⟨H.length + 1,0,none⟩) (gs.length + 1) 1,.int .i64 (left - c : Nat),K7,K8,K9,Ka,Kb,Kc,Kd,Ke,Kf,Kg,Kh,Ki,Kj,Kk,Kl,Km,Kn,Ko,Kp,Kq,Kr,Ks,Kt,Ku,Kv,Kw,Kx,Ky,Kz,J0,J1,J2,J3,J4,J5,J6,J7,J8] H1 R := by
   intro c hc hc1
   obtain ⟨H1,ha,hb1,hlen1,hk1⟩ := app1v (v := .int .i64 (c : Nat)) (bytes := 8) ho (by unfold roomCells; omega) (by omega)
   refine ⟨H1,ha,by rw [wrapI (by omega) (by omega)]; omega,fun K0 K1 K2 K4 K7 K8 K9 Ka Kb Kc Kd Ke Kf Kg Kh Ki Kj Kk Kl Km Kn Ko Kp Kq Kr Ks Kt Ku Kv Kw Kx Ky Kz J0 J1 J2 J3 J4 J5 J6 J7 J8 => ?_⟩
   have e : nI gs ++ [.int .i64 ((c : Nat) : Int)] = nI (gs ++ [c]) := by rw [nI,nI,List.map_append]; rfl
   rw [e] at hb1
   have egs : (gs ++ [c]).length = gs.length + 1 := by simp
   unfold sgGo at hgo
   rw [if_neg h0,← hc,szAt_next] at hgo
   have ih' := fun K0 K1 K2 K4 K7 K8 K9 Ka Kb Kc Kd Ke Kf Kg Kh Ki Kj Kk Kl Km Kn Ko Kp Kq Kr Ks Kt Ku Kv Kw Kx Ky Kz J0 J1 J2 J3 J4 J5 J6 J7 J8 => ih (left - c) (gs ++ [c]) H1 (.slice (some ⟨H.length + 1,0,none⟩) (gs.length + 1) 1) K0 K1 K2 K4 K7 K8 K9 Ka Kb Kc Kd Ke Kf Kg Kh Ki Kj Kk Kl Km Kn Ko Kp Kq Kr Ks Kt Ku Kv Kw Kx Ky Kz J0 J1 J2 J3 J4 J5 J6 J7 J8 (by omega) (by omega) (by rw [egs]; omega) (by rw [egs,List.append_assoc,List.singleton_append]; exact hgo) (by rw [egs]; exact ⟨by simp [nI],.inr ⟨_,rfl,hb1⟩⟩) (fun id hid => by simp [sid] at hid; omega) (fun id hid => by
    rw [hk1 id (by omega) (fun x => by have := hf id x; omega),hs id hid]) (by omega)
   exact ih' ..
  clear ih hk hgo
  rw [ok_round,l46_0,L46_0a,L46_0b]
  cases hr : m.res with
  | true =>
   obtain ⟨H1,ha,hw,fin'⟩ := next 1 (by unfold szAt; rw [if_pos hr]; omega) (by omega)
   have hw' : IntKind.i64.wrap ((left : Int) - 1) = ((left - 1 : Nat) : Int) := hw
   have ha' : appendV (H ++ [some ⟨false,[.int .i64 1]⟩]) 1 8 out (.slice (some ⟨H.length,0,none⟩) 1 1) = some (.slice (some ⟨H.length + 1,0,none⟩) (gs.length + 1) 1,H1) := ha
   rw [hr] at hXH
   generalize ((left - 1 : Nat) : Int) = l1 at *
   simp [repL,hpos,hpos',w0,hXH,ha',hw']
   exact fin' ..
  | false =>
   rw [hr] at hXH
   cases hb : m.byp with
   | false =>
    rw [hb] at hXH
    obtain ⟨H1,ha,hw,fin'⟩ := next left (by unfold szAt; rw [if_neg (by simp [hr]),if_neg (by simp [hb])]; omega) (by omega)
    rw [Nat.sub_self] at fin' hw
    generalize ((left : Nat) : Int) = li at *
    simp [repL,k_guard,k_guardU,hpos,hpos',w0,hXH,ha,hw]
    exact fin' ..
   | true =>
    rw [hb] at hXH
    by_cases hg0 : gs.length = 0
    ·obtain ⟨H1,ha,hw,fin'⟩ := next (min left 10) (by unfold szAt; rw [if_neg (by simp [hr]),if_pos hb,if_pos hg0]; omega) (by omega)
     have hmin : min (left : Int) 10 = ((min left 10 : Nat) : Int) := by omega
     rw [hout] at ha ⊢
     rw [hg0] at ha fin' ⊢
     generalize ((left - min left 10 : Nat) : Int) = l1 at *
     generalize ((min left 10 : Nat) : Int) = c1 at *
     generalize ((left : Nat) : Int) = li at *
     simp [repL,k_guard,k_guardU,hpos,hpos',w0,hXH,fold1,foldO,mn2,hmin,ha,hw]
     exact fin' ..
    ·obtain ⟨H1,ha,hw,fin'⟩ := next (min left (1 + gs.length % 2)) (by unfold szAt; rw [if_neg (by simp [hr]),if_pos hb,if_neg hg0]; omega) (by omega)
     have hg0' : (((gs.length : Nat) : Int) == 0) = false := by rw [beq_eq_false_iff_ne]; omega
     have hm1 : (((gs.length : Nat) : Int).tmod 2) = ((gs.length % 2 : Nat) : Int) := by rw [Int.tmod_eq_emod_of_nonneg (by omega)]; omega
     have hm2 : IntKind.i64.wrap (1 + ((gs.length % 2 : Nat) : Int)) = ((1 + gs.length % 2 : Nat) : Int) := by rw [wrapI (by omega) (by omega)]; omega
     have hmin : min (left : Int) ((1 + gs.length % 2 : Nat) : Int) = ((min left (1 + gs.length % 2) : Nat) : Int) := by omega
     rw [hout] at ha ⊢
     generalize ((left - min left (1 + gs.length % 2) : Nat) : Int) = l1 at *
     generalize ((min left (1 + gs.length % 2) : Nat) : Int) = c1 at *
     generalize ((1 + gs.length % 2 : Nat) : Int) = c2 at *
     generalize ((gs.length % 2 : Nat) : Int) = c3 at *
     generalize ((left : Nat) : Int) = li at *
     generalize gs.length = gl at *
     have hgl0 : gl ≠ 0 := hg0
     simp [repL,k_guard,k_guardU,hpos,hpos',w0,hXH,hg0',hg0,hm1,hm2,fold1,foldO,mn2,hmin,ha,hw]
     exact fin' ..
theorem segments_x {n : Nat} (hn : n ≤ 178) (m : MD) :
  ∃ v h',(∀ R,Ret tab 46 [.int .i64 (n : Nat),m.val] h R = R v h') ∧ Sl h' 1 v (segsOf m n).length (nI (segsOf m n)) ∧ (∀ id,sid v = some id → h.length ≤ id ∧ id < h'.length) ∧ (∀ id,id < h.length → blk? h' id = blk? h id) ∧ h.length ≤ h'.length := by
 have key : Ret tab 46 [.int .i64 (n : Nat),m.val] h fun v h' => Sl h' 1 v (segsOf m n).length (nI (segsOf m n)) ∧ (∀ id,sid v = some id → h.length ≤ id ∧ id < h'.length) ∧ (∀ id,id < h.length → blk? h' id = blk? h id) ∧ h.length ≤ h'.length := by
  generalize hH : h ++ [some (⟨false,[.bool m.byp,.bool m.res,.bool m.rst,.bool m.cz,.bool m.sy]⟩ : Blk)] = H
  have lH : H.length = h.length + 1 := by rw [← hH]; simp
  have bH : blk? H h.length = some ⟨false,[.bool m.byp,.bool m.res,.bool m.rst,.bool m.cz,.bool m.sy]⟩ := by rw [← hH]; exact blk?_push_eq
  have kH : ∀ id,id < h.length → blk? H id = blk? h id := fun id hid => by rw [← hH]; exact blk?_push_lt hid
  rw [enter46,show B46 = .seq (nthC 0 B46) (.seq (nthC 1 B46) (.seq (nthC 2 B46) (.seq (nthC 3 B46) (.seq (nthC 4 B46) (tlC 5 B46))))) from rfl]
  by_cases h1 : n < 1
  ·have h1' : (n : Int) < 1 := by omega
   have e : segsOf m n = [] := by unfold segsOf; rw [if_pos (.inl h1)]
   rw [e]
   generalize hT : tlC 5 B46 = tl at *
   simp only [nthC,tlC,fstC,B46]
   generalize ((n : Nat) : Int) = ni at *
   simp [k_guard,k_guardU,MD.val,hH,h1',fin46]
   exact ⟨(OwnS.nil H 1).sl,fun id hid => by simp [sid] at hid,kH,by omega⟩
  ·have h1' : ¬ (n : Int) < 1 := by omega
   have h2' : ¬ (178 : Int) < (n : Int) := by omega
   have e : segsOf m n = sgGo m n (szAt m n 0) n := by unfold segsOf; rw [if_neg (by omega),szAt_zero]
   rw [e]
   have L := fun K0 K1 K2 K4 K7 K8 K9 Ka Kb Kc Kd Ke Kf Kg Kh Ki Kj Kk Kl Km Kn Ko Kp Kq Kr Ks Kt Ku Kv Kw Kx Ky Kz J0 J1 J2 J3 J4 J5 J6 J7 J8 => seg14_loop (R := fun v h' => Sl h' 1 v (sgGo m n (szAt m n 0) n).length (nI (sgGo m n (szAt m n 0) n)) ∧ (∀ id,sid v = some id → h.length ≤ id ∧ id < h'.length) ∧ (∀ id,id < h.length → blk? h' id = blk? h id) ∧ h.length ≤ h'.length) (hB := H) bH hn (K := [.code (tlC 5 B46)])
    (fun G out K0 K1 K2 K3 K4 K6 K7 K8 K9 Ka Kb Kc Kd Ke Kf Kg Kh Ki Kj Kk Kl Km Kn Ko Kp Kq Kr Ks Kt Ku Kv Kw Kx Ky Kz J0 J1 J2 J3 J4 J5 J6 J7 J8 o f k l => by
     simp only [nthC,tlC,fstC,B46]
     simp [fin46]
     exact ⟨o.sl,fun id hid => ⟨by have := f id hid; omega,o.lt hid⟩,fun id hid => by rw [k id (by omega),kH id hid],by omega⟩) n n [] H (.slice none 0 0) K0 K1 K2 K4 K7 K8 K9 Ka Kb Kc Kd Ke Kf Kg Kh Ki Kj Kk Kl Km Kn Ko Kp Kq Kr Ks Kt Ku Kv Kw Kx Ky Kz J0 J1 J2 J3 J4 J5 J6 J7 J8 (Nat.le_refl _) (Nat.le_refl _) (by simp) (by simp) (OwnS.nil _ _) (fun id hid => by simp [sid] at hid) (fun _ _ => rfl) (Nat.le_refl _)
   generalize hT : tlC 5 B46 = tl at *
   simp only [nthC,tlC,fstC,B46]
   generalize ((n : Nat) : Int) = ni at *
   simp [k_guard,k_guardU,MD.val,hH,h1',h2']
   exact L ..
 obtain ⟨v,h',ee,a,b,c,d⟩ := ret_ex key
 exact ⟨v,h',ee,a,b,c,d⟩
end
set_option maxRecDepth 10000
structure SX (h : Heap) (e q : Nat) (own : Nat → Prop) (st : S2) (N : Nat) : Prop where
 ex : ∃ pb lb wv,XA h e pb lb st.a ∧ WX h q wv (st.raw.getD []) ∧ (∀ id,ownX e pb lb id → ¬ ownR q wv id) ∧ ∀ id,own id ↔ (ownX e pb lb id ∨ ownR q wv id)
 h19 : st.a.p.length = 19
 dn : st.a.ds.length ≤ N + 4
 bn : (st.raw.getD []).length ≤ N
section
variable {h h' : Heap} {R : Value → Heap → Prop} {e q N : Nat} {own : Nat → Prop} {st : S2}
theorem SX.own_lt (K : SX h e q own st N) {id : Nat} (hid : own id) : id < h.length := by
 obtain ⟨pb,lb,wv,I,J,_,o⟩ := K.ex
 rcases (o id).1 hid with x | x
 ·exact I.own_lt x
 ·exact J.own_lt x
theorem SX.keep (K : SX h e q own st N) (hk : ∀ id,own id → blk? h' id = blk? h id) : SX h' e q own st N := by
 obtain ⟨pb,lb,wv,I,J,d,o⟩ := K.ex
 exact ⟨⟨pb,lb,wv,I.keep fun id hid => hk id ((o id).2 (.inl hid)),J.keep fun id hid => hk id ((o id).2 (.inr hid)),d,o⟩,K.h19,K.dn,K.bn⟩
theorem sx_enc (K : SX h e q own st N) (hr : st.raw = none) (hN : N ≤ 900000) {c : Int} {b : Nat} (hs : SymOk st.raw (c,b)) :
  ∃ h' own',(∀ R,Ret tab 93 [ptr e,.int .i64 c,.int .i64 (b : Nat)] h R = R (.int .i64 0) h') ∧ SX h' e q own' (st.put (c,b)) (N + 1) ∧ SF h h' own own' := by
 obtain ⟨a,raw⟩ := st
 simp only at hr
 subst hr
 obtain ⟨pb,lb,wv,I,J,dis,o⟩ := K.ex
 have h19 := K.h19
 have dn := K.dn
 have bn := K.bn
 simp only at I J h19 dn bn
 obtain ⟨hb,hc⟩ := hs
 obtain ⟨c0,c1⟩ := hc rfl
 obtain ⟨c,rfl⟩ := Int.eq_ofNat_of_zero_le c0
 simp only at hb c1
 obtain ⟨h',lb',e1,I',F⟩ := xput_c I (c := c) (bit := b) (by omega) hb (by omega)
 have hw : ∀ id,ownR q wv id → ¬ ownX e pb lb id := fun id x y => dis id y x
 have hl := put_len1 a c b
 refine ⟨h',fun id => ownX e pb lb' id ∨ ownR q wv id,e1,⟨⟨pb,lb',wv,I',J.keep fun id hid => F.same id (J.own_lt hid) (hw id hid),fun id hid x => ?_,fun id => Iff.rfl⟩,by simp [S2.put,AE.put]; exact h19,?_,by simp [S2.put]⟩,⟨F.len,fun id hid hno => F.same id hid (fun x => hno ((o id).2 (.inl x))),fun id hid => ?_⟩⟩
 ·rcases F.fresh id hid with y | y
  ·exact dis id y x
  ·have := J.own_lt x; omega
 ·simp only [S2.put,Int.toNat_natCast]; omega
 ·rcases hid with x | x
  ·rcases F.fresh id x with y | y
   ·exact .inl ((o id).2 (.inl y))
   ·exact .inr y
  ·exact .inl ((o id).2 (.inr x))
theorem sx_wr (K : SX h e q own st N) {bs : List Nat} (hr : st.raw = some bs) (hN : N ≤ 900000) {c : Int} {b : Nat} (hs : SymOk st.raw (c,b)) :
  ∃ h' own',(∀ R,Ret tab 92 [ptr q,.int .i64 (b : Nat)] h R = R (.int .i64 0) h') ∧ SX h' e q own' (st.put (c,b)) (N + 1) ∧ SF h h' own own' := by
 obtain ⟨a,raw⟩ := st
 simp only at hr
 subst hr
 obtain ⟨pb,lb,wv,I,J,dis,o⟩ := K.ex
 have h19 := K.h19
 have dn := K.dn
 have bn := K.bn
 simp only [Option.getD_some] at I J h19 dn bn
 obtain ⟨hb,_⟩ := hs
 obtain ⟨h',wv',e1,J',F⟩ := wput_x J hb (by omega)
 refine ⟨h',fun id => ownX e pb lb id ∨ ownR q wv' id,e1,⟨⟨pb,lb,wv',I.keep fun id hid => F.same id (I.own_lt hid) (fun x => dis id hid x),J',fun id hid x => ?_,fun id => Iff.rfl⟩,h19,by simp [S2.put]; omega,by simp [S2.put]; omega⟩,⟨F.len,fun id hid hno => F.same id hid (fun x => hno ((o id).2 (.inr x))),fun id hid => ?_⟩⟩
 ·rcases F.fresh id x with y | y
  ·exact dis id hid y
  ·have := I.own_lt hid; omega
 ·rcases hid with x | x
  ·exact .inl ((o id).2 (.inl x))
  ·rcases F.fresh id x with y | y
   ·exact .inl ((o id).2 (.inr y))
   ·exact .inr y
theorem sx_back (K : SX h e q own st N) : ∃ h' own',(∀ R,Ret tab 91 [ptr e] h R = R (.tuple #[]) h') ∧ SX h' e q own' st.back N ∧ SF h h' own own' := by
 obtain ⟨pb,lb,wv,I,J,dis,o⟩ := K.ex
 obtain ⟨h',pb',e1,I',F⟩ := reset_x I (by have := K.h19; omega)
 refine ⟨h',fun id => ownX e pb' lb id ∨ ownR q wv id,e1,⟨⟨pb',lb,wv,I',J.keep fun id hid => F.same id (J.own_lt hid) (fun x => dis id x hid),fun id hid x => ?_,fun id => Iff.rfl⟩,by simpa [S2.back,AE.setBack,AE.base] using K.h19,K.dn,K.bn⟩,⟨F.len,fun id hid hno => F.same id hid (fun x => hno ((o id).2 (.inl x))),fun id hid => ?_⟩⟩
 ·rcases F.fresh id hid with y | y
  ·exact dis id y x
  ·have := J.own_lt x; omega
 ·rcases hid with x | x
  ·rcases F.fresh id x with y | y
   ·exact .inl ((o id).2 (.inl y))
   ·exact .inr y
  ·exact .inl ((o id).2 (.inr x))
theorem sx_size (K : SX h e q own st N) (hN : N ≤ 900000) : (st.raw = none → ∀ R,Ret tab 95 [ptr e] h R = R (.int .i64 (st.size : Nat)) h) ∧ (st.raw ≠ none → ∀ R,Ret tab 94 [ptr q] h R = R (.int .i64 (st.size : Nat)) h) := by
 obtain ⟨pb,lb,wv,I,J,dis,o⟩ := K.ex
 have bn := K.bn
 obtain ⟨a,raw⟩ := st
 cases raw with
 | none => exact ⟨fun _ R => size_x I,fun x => absurd rfl x⟩
 | some bs =>
  simp only [Option.getD_some] at J bn
  exact ⟨fun x => by simp at x,fun _ R => wsize_x J (by omega)⟩
theorem xsym_loop {hB : Heap} {own0 : Nat → Prop} {st0 : S2} {N0 i nsv pid poff : Nat} {pbk : Blk} {l : List (Int × Nat)} {yv zv : Value} {zs : List Nat} {raw rs : Bool} (hpb : blk? hB pid = some pbk) (hi : i < nsv) (hpc : pbk.cells[poff + i]? = some yv) (hpn : ¬ own0 pid)
  (hy : Sl hB 2 yv l.length (encS l)) (hno : ∀ id,sid yv = some id → ¬ own0 id) (hok : ∀ s ∈ l,SymOk st0.raw s) (hN : N0 + l.length ≤ 900000) (hraw : st0.raw = none ↔ raw = false) {K : List RItem}
  (hk : ∀ (H : Heap) (own : Nat → Prop) (K4 K5 K6 K7 K8 K9 Kd Ke Kf Kg Kh Ki Kj Kk Kl Km Kn Ko Kp Kq Kr Ks Kt Ku Kv Kw Kx Ky Kz J0 J1 J2 J3 J4 J5 J6 J7 J8 J9 Ja Jb Jc Jd Je Jf Jg Jh Ji Jj Jk Jl Jm Jn Jo Jp Jq Jr Js Jt Ju Jv Jw Jx Jy Jz Y0 Y1 Y2 Y3 Y4 Y5 Y6 Y7 Y8 Y9 Ya Yb Yc : Value),SX H e q own (st0.puts l) (N0 + l.length) → SF hB H own0 own → OwnS H 1 zv zs.length (nI zs) → (∀ id,own id → sid zv ≠ some id) → Ok tab R47 K #[ptr e,.slice (some ⟨pid,poff,none⟩) nsv 1,.bool raw,.bool rs,K4,K5,K6,K7,K8,K9,ptr q,zv,.int .i64 (i : Nat),Kd,Ke,Kf,Kg,Kh,Ki,Kj,Kk,Kl,Km,Kn,Ko,Kp,Kq,Kr,Ks,Kt,Ku,Kv,Kw,Kx,Ky,Kz,J0,J1,J2,J3,J4,J5,J6,J7,J8,J9,Ja,Jb,Jc,Jd,Je,Jf,Jg,Jh,Ji,Jj,Jk,Jl,Jm,Jn,Jo,Jp,Jq,Jr,Js,Jt,Ju,Jv,Jw,Jx,Jy,Jz,Y0,Y1,Y2,Y3,Y4,Y5,Y6,Y7,Y8,Y9,Ya,Yb,Yc] H R) :
  ∀ (d k : Nat) (H : Heap) (own : Nat → Prop) (st : S2) (K4 K5 K6 K7 K8 K9 Ke Kf Kg Kh Ki Kj Kk Kl Km Kn Ko Kp Kq Kr Ks Kt Ku Kv Kw Kx Ky Kz J0 J1 J2 J3 J4 J5 J6 J7 J8 J9 Ja Jb Jc Jd Je Jf Jg Jh Ji Jj Jk Jl Jm Jn Jo Jp Jq Jr Js Jt Ju Jv Jw Jx Jy Jz Y0 Y1 Y2 Y3 Y4 Y5 Y6 Y7 Y8 Y9 Ya Yb Yc : Value),k + d = l.length → st = st0.puts (l.take k) → SX H e q own st (N0 + k) → SF hB H own0 own → OwnS H 1 zv zs.length (nI zs) → (∀ id,own id → sid zv ≠ some id) →
   Ok tab R47 (.inLoop L47_0 :: .inBlock 2 :: K) #[ptr e,.slice (some ⟨pid,poff,none⟩) nsv 1,.bool raw,.bool rs,K4,K5,K6,K7,K8,K9,ptr q,zv,.int .i64 (i : Nat),.int .i64 (k : Nat),Ke,Kf,Kg,Kh,Ki,Kj,Kk,Kl,Km,Kn,Ko,Kp,Kq,Kr,Ks,Kt,Ku,Kv,Kw,Kx,Ky,Kz,J0,J1,J2,J3,J4,J5,J6,J7,J8,J9,Ja,Jb,Jc,Jd,Je,Jf,Jg,Jh,Ji,Jj,Jk,Jl,Jm,Jn,Jo,Jp,Jq,Jr,Js,Jt,Ju,Jv,Jw,Jx,Jy,Jz,Y0,Y1,Y2,Y3,Y4,Y5,Y6,Y7,Y8,Y9,Ya,Yb,Yc] H R := by
 intro d
 have lpid := blk?_lt hpb
 have hii : (i : Int) < (nsv : Int) := by omega
 have inH : ∀ (H : Heap) (own : Nat → Prop),SF hB H own0 own → ∀ id b,blk? hB id = some b → ¬ own0 id → blk? H id = some b := fun H own F id b hb hn => by rw [F.same id (blk?_lt hb) hn]; exact hb
 obtain ⟨ya,yc,hyv⟩ := hy.shape
 have gp := get_of hpc
 have lpc : poff + i < pbk.cells.length := (List.getElem?_eq_some_iff.1 hpc).1
 induction d with
 | zero =>
  intro k H own st;intros;rename_i hkd hst hK F hz hd
  obtain rfl : k = l.length := by omega
  rw [List.take_length] at hst
  subst hst
  have hpH := inH H own F pid pbk hpb hpn
  rw [hyv] at hpc gp
  rw [ok_round,l47_0,L47_0a,L47_0b]
  simp [hi,hii,hpH,hpc,gp]
  exact hk H own _ _ _ _ _ _ _ _ _ _ _ _ _ _ _ _ _ _ _ _ _ _ _ _ _ _ _ _ _ _ _ _ _ _ _ _ _ _ _ _ _ _ _ _ _ _ _ _ _ _ _ _ _ _ _ _ _ _ _ _ _ _ _ _ _ _ _ _ _ _ _ _ _ _ _ _ _ _ hK F hz hd
 | succ d ih =>
  intro k H own st;intros;rename_i hkd hst hK F hz hd
  have hkl : k < l.length := by omega
  have hlt : (k : Int) < (l.length : Int) := by omega
  have hw : IntKind.i64.wrap ((k : Int) + 1) = ((k + 1 : Nat) : Int) := wrapN (n := k + 1) (by omega)
  have hpH := inH H own F pid pbk hpb hpn
  obtain ⟨id,off,b,hye,hb,hle,htw⟩ := sym_two hy hkl
  have hbH := inH H own F id b hb (hno id (by rw [hye]; rfl))
  have hc0 : b.cells[off + k * 2]? = some (.int .i64 l[k].1) := by
   have := congrArg (fun x => x[0]?) htw
   simpa [List.getElem?_take,List.getElem?_drop] using this
  have hc1 : b.cells[off + k * 2 + 1]? = some (.int .i64 (l[k].2 : Nat)) := by
   have := congrArg (fun x => x[1]?) htw
   simpa [List.getElem?_take,List.getElem?_drop,Nat.add_assoc] using this
  have g0 := get_of hc0
  have g1 := get_of hc1
  have l0 : off + k * 2 < b.cells.length := by omega
  have l1 : off + k * 2 + 1 < b.cells.length := by omega
  have hrw : st.raw = none ↔ st0.raw = none := by rw [hst]; exact (puts_raw _ _).symm
  have hsok : SymOk st.raw (l[k].1,l[k].2) := by
   have := hok l[k] (List.getElem_mem hkl)
   exact ⟨this.1,fun x => this.2 (hrw.1 x)⟩
  have htk : l.take (k + 1) = l.take k ++ [l[k]] := by rw [List.take_add_one,List.getElem?_eq_getElem hkl]; rfl
  have hst' : st.put (l[k].1,l[k].2) = st0.puts (l.take (k + 1)) := by rw [htk,hst]; unfold S2.puts; rw [List.foldl_append]; rfl
  have step : ∀ H' own',SX H' e q own' (st.put (l[k].1,l[k].2)) (N0 + k + 1) → SF H H' own own' → ∀ (K4 K5 K6 K7 K8 K9 Ke Kf Kg Kh Ki Kj Kk Kl Km Kn Ko Kp Kq Kr Ks Kt Ku Kv Kw Kx Ky Kz J0 J1 J2 J3 J4 J5 J6 J7 J8 J9 Ja Jb Jc Jd Je Jf Jg Jh Ji Jj Jk Jl Jm Jn Jo Jp Jq Jr Js Jt Ju Jv Jw Jx Jy Jz Y0 Y1 Y2 Y3 Y4 Y5 Y6 Y7 Y8 Y9 Ya Yb Yc : Value),Ok tab R47 (.inLoop L47_0 :: .inBlock 2 :: K) #[ptr e,.slice (some ⟨pid,poff,none⟩) nsv 1,.bool raw,.bool rs,K4,K5,K6,K7,K8,K9,ptr q,zv,.int .i64 (i : Nat),.int .i64 ((k + 1 : Nat) : Int),Ke,Kf,Kg,Kh,Ki,Kj,Kk,Kl,Km,Kn,Ko,Kp,Kq,Kr,Ks,Kt,Ku,Kv,Kw,Kx,Ky,Kz,J0,J1,J2,J3,J4,J5,J6,J7,J8,J9,Ja,Jb,Jc,Jd,Je,Jf,Jg,Jh,Ji,Jj,Jk,Jl,Jm,Jn,Jo,Jp,Jq,Jr,Js,Jt,Ju,Jv,Jw,Jx,Jy,Jz,Y0,Y1,Y2,Y3,Y4,Y5,Y6,Y7,Y8,Y9,Ya,Yb,Yc] H' R := by
   intro H' own' hK' F';intros
   refine ih (k + 1) H' own' _ _ _ _ _ _ _ _ _ _ _ _ _ _ _ _ _ _ _ _ _ _ _ _ _ _ _ _ _ _ _ _ _ _ _ _ _ _ _ _ _ _ _ _ _ _ _ _ _ _ _ _ _ _ _ _ _ _ _ _ _ _ _ _ _ _ _ _ _ _ _ _ _ _ _ _ _ _ (by omega) hst' hK' (F.trans F') (hz.of_blk fun id hid hb => by rw [F'.same id (blk?_lt hb) (fun x => hd id x hid)]; exact hb) (fun id hid x => ?_)
   rcases F'.fresh id hid with y | y
   ·exact hd id y x
   ·have := hz.lt x; omega
  rw [hye] at hpc gp
  clear ih hk
  generalize ((k + 1 : Nat) : Int) = k1 at *
  cases raw with
  | false =>
   obtain ⟨H',own',e1,hK',F'⟩ := sx_enc hK (hrw.2 (hraw.2 rfl)) (by omega) hsok
   have fin' := step H' own' hK' F'
   clear step
   generalize l[k].1 = c at *
   generalize l[k].2 = bt at *
   rw [ok_round,l47_0,L47_0a,L47_0b]
   simp [hi,hii,hkl,hlt,hpH,hpc,gp,hbH,hc0,hc1,g0,g1,l0,l1,lpc,e1,hw]
   exact fin' ..
  | true =>
   obtain ⟨bs,hbs⟩ : ∃ bs,st.raw = some bs := by
    cases hx : st.raw with
    | none => exact absurd (hraw.1 (hrw.1 hx)) (by simp)
    | some bs => exact ⟨bs,rfl⟩
   obtain ⟨H',own',e1,hK',F'⟩ := sx_wr hK hbs (by omega) hsok
   have fin' := step H' own' hK' F'
   clear step
   generalize l[k].1 = c at *
   generalize l[k].2 = bt at *
   rw [ok_round,l47_0,L47_0a,L47_0b]
   simp [hi,hii,hkl,hlt,hpH,hpc,gp,hbH,hc0,hc1,g0,g1,l0,l1,lpc,e1,hw]
   exact fin' ..
end
set_option maxRecDepth 10000
section
variable {R : Value → Heap → Prop} {e q : Nat}
theorem xpass_loop {hB : Heap} {own0 : Nat → Prop} {m : MD} {n : Nat} {sv : Value} {vs : List Value} {ls : List (List (Int × Nat))} {raw : Bool} {stF : S2} {zsF : List Nat} {NF : Nat} (hp : Pss hB sv vs ls) (hpn : ∀ id,sid sv = some id → ¬ own0 id) (hen : ∀ i (h1 : i < vs.length) id,sid vs[i] = some id → ¬ own0 id)
  (hls : ls.length ≤ 178) (hrw : ∀ j,j < ls.length → rawOf m (n + j) = raw) (hNF : NF ≤ 900000) {K : List RItem}
  (hk : ∀ (H : Heap) (own : Nat → Prop) (zv : Value) (K4 K5 K6 K7 K8 K9 Kc Kd Ke Kf Kg Kh Ki Kj Kk Kl Km Kn Ko Kp Kq Kr Ks Kt Ku Kv Kw Kx Ky Kz J0 J1 J2 J3 J4 J5 J6 J7 J8 J9 Ja Jb Jc Jd Je Jf Jg Jh Ji Jj Jk Jl Jm Jn Jo Jp Jq Jr Js Jt Ju Jv Jw Jx Jy Jz Y0 Y1 Y2 Y3 Y4 Y5 Y6 Y7 Y8 Y9 Ya Yb Yc : Value),SX H e q own stF NF → SF hB H own0 own → OwnS H 1 zv zsF.length (nI zsF) → (∀ id,own id → sid zv ≠ some id) → (∀ id,sid zv = some id → hB.length ≤ id) → Ok tab R47 K #[ptr e,sv,.bool raw,.bool m.rst,K4,K5,K6,K7,K8,K9,ptr q,zv,Kc,Kd,Ke,Kf,Kg,Kh,Ki,Kj,Kk,Kl,Km,Kn,Ko,Kp,Kq,Kr,Ks,Kt,Ku,Kv,Kw,Kx,Ky,Kz,J0,J1,J2,J3,J4,J5,J6,J7,J8,J9,Ja,Jb,Jc,Jd,Je,Jf,Jg,Jh,Ji,Jj,Jk,Jl,Jm,Jn,Jo,Jp,Jq,Jr,Js,Jt,Ju,Jv,Jw,Jx,Jy,Jz,Y0,Y1,Y2,Y3,Y4,Y5,Y6,Y7,Y8,Y9,Ya,Yb,Yc] H R) :
  ∀ (d j : Nat) (H : Heap) (own : Nat → Prop) (st : S2) (N : Nat) (zv : Value) (zs : List Nat) (K4 K5 K6 K7 K8 K9 Kd Ke Kf Kg Kh Ki Kj Kk Kl Km Kn Ko Kp Kq Kr Ks Kt Ku Kv Kw Kx Ky Kz J0 J1 J2 J3 J4 J5 J6 J7 J8 J9 Ja Jb Jc Jd Je Jf Jg Jh Ji Jj Jk Jl Jm Jn Jo Jp Jq Jr Js Jt Ju Jv Jw Jx Jy Jz Y0 Y1 Y2 Y3 Y4 Y5 Y6 Y7 Y8 Y9 Ya Yb Yc : Value),j + d = ls.length → SX H e q own st N → (st.raw = none ↔ raw = false) → (∀ l ∈ ls.drop j,∀ s ∈ l,SymOk st.raw s) → N + totL (ls.drop j) = NF → zs.length ≤ j → SF hB H own0 own → OwnS H 1 zv zs.length (nI zs) → (∀ id,own id → sid zv ≠ some id) → (∀ id,sid zv = some id → hB.length ≤ id) →
   (segRun m (n + j) (ls.drop j) st).1 = stF → zs ++ (segRun m (n + j) (ls.drop j) st).2 = zsF →
   Ok tab R47 (.inLoop L47_1 :: .inBlock 0 :: K) #[ptr e,sv,.bool raw,.bool m.rst,K4,K5,K6,K7,K8,K9,ptr q,zv,.int .i64 (j : Nat),Kd,Ke,Kf,Kg,Kh,Ki,Kj,Kk,Kl,Km,Kn,Ko,Kp,Kq,Kr,Ks,Kt,Ku,Kv,Kw,Kx,Ky,Kz,J0,J1,J2,J3,J4,J5,J6,J7,J8,J9,Ja,Jb,Jc,Jd,Je,Jf,Jg,Jh,Ji,Jj,Jk,Jl,Jm,Jn,Jo,Jp,Jq,Jr,Js,Jt,Ju,Jv,Jw,Jx,Jy,Jz,Y0,Y1,Y2,Y3,Y4,Y5,Y6,Y7,Y8,Y9,Ya,Yb,Yc] H R := by
 intro d
 have hvl := hp.len
 induction d with
 | zero =>
  intro j H own st N zv zs;intros;rename_i hj hK hraw _ hN _ F hz hd hf h1 h2
  obtain rfl : j = ls.length := by omega
  rw [List.drop_length] at h1 h2 hN
  simp only [segRun,List.append_nil,totL,Nat.add_zero] at h1 h2 hN
  subst h1 h2 hN
  obtain ⟨sa,sc,hs⟩ := hp.sl.shape
  have hk' := hk H own zv
  rw [hs] at hk' ⊢
  have hlt : ¬ ((ls.length : Int) < (vs.length : Int)) := by omega
  have hlt' : ¬ (ls.length < vs.length) := by omega
  rw [ok_round,l47_1,L47_1a]
  simp [hlt,hlt']
  exact hk' _ _ _ _ _ _ _ _ _ _ _ _ _ _ _ _ _ _ _ _ _ _ _ _ _ _ _ _ _ _ _ _ _ _ _ _ _ _ _ _ _ _ _ _ _ _ _ _ _ _ _ _ _ _ _ _ _ _ _ _ _ _ _ _ _ _ _ _ _ _ _ _ _ _ _ _ _ _ _ hK F hz hd hf
 | succ d ih =>
  intro j H own st N zv zs;intros;rename_i hj hK hraw hok hN hzl F hz hd hf h1 h2
  have hi : j < ls.length := by omega
  have hiv : j < vs.length := by omega
  have hlt : ((j : Int) < (vs.length : Int)) := by omega
  have hdr : ls.drop j = ls[j] :: ls.drop (j + 1) := List.drop_eq_getElem_cons hi
  rw [hdr] at hok hN h1 h2
  simp only [totL,segRun] at hN h1 h2
  have hrj := hrw j hi
  obtain ⟨pid,poff,pbk,hsv,hpb,hpc⟩ := hp.get hiv
  have hpno := hpn pid (by rw [hsv]; rfl)
  have hyS := hp.each j hiv hi
  have hw : IntKind.i64.wrap ((j : Int) + 1) = ((j + 1 : Nat) : Int) := wrapN (n := j + 1) (by omega)
  have stepA : ∃ H1 own1 st1,SX H1 e q own1 st1 N ∧ SF H H1 own own1 ∧ st1 = (if m.rst = true ∧ rawOf m (n + j) = false then st.back else st) ∧ (m.rst = true → raw = false → ∀ R,Ret tab 91 [ptr e] H R = R (.tuple #[]) H1) ∧ (¬ (m.rst = true ∧ raw = false) → H1 = H) := by
   by_cases hc : m.rst = true ∧ raw = false
   ·obtain ⟨H1,own1,e1,hK1,F1⟩ := sx_back hK
    exact ⟨H1,own1,_,hK1,F1,by rw [if_pos (by rw [hrj]; exact hc)],fun _ _ => e1,fun x => absurd hc x⟩
   ·exact ⟨H,own,_,hK,SF.refl _ _,by rw [if_neg (by rw [hrj]; exact hc)],fun a b => absurd ⟨a,b⟩ hc,fun _ => rfl⟩
  obtain ⟨HA,ownA,stA,hKA,FA,hstA,eA,eA'⟩ := stepA
  rw [← hstA] at h1 h2
  have hrawA : stA.raw = st.raw := by rw [hstA]; split <;> rfl
  have hzA : OwnS HA 1 zv zs.length (nI zs) := hz.of_blk fun id hid hb => by rw [FA.same id (blk?_lt hb) (fun x => hd id x hid)]; exact hb
  have hdA : ∀ id,ownA id → sid zv ≠ some id := fun id hid x => by
   rcases FA.fresh id hid with y | y
   ·exact hd id y x
   ·have := hz.lt x; omega
  have tail : ∀ (H2 : Heap) (own2 : Nat → Prop) (K4 K5 K6 K7 K8 K9 Kd Ke Kf Kg Kh Ki Kj Kk Kl Km Kn Ko Kp Kq Kr Ks Kt Ku Kv Kw Kx Ky Kz J0 J1 J2 J3 J4 J5 J6 J7 J8 J9 Ja Jb Jc Jd Je Jf Jg Jh Ji Jj Jk Jl Jm Jn Jo Jp Jq Jr Js Jt Ju Jv Jw Jx Jy Jz Y0 Y1 Y2 Y3 Y4 Y5 Y6 Y7 Y8 Y9 Ya Yb Yc : Value),SX H2 e q own2 (stA.puts ls[j]) (N + ls[j].length) → SF hB H2 own0 own2 → OwnS H2 1 zv zs.length (nI zs) → (∀ id,own2 id → sid zv ≠ some id) →
    Ok tab R47 (.code (tlC 2 (inB (fstC L47_1b))) :: .inBlock 1 :: .code (tlC 1 L47_1b) :: .inLoop L47_1 :: .inBlock 0 :: K) #[ptr e,sv,.bool raw,.bool m.rst,K4,K5,K6,K7,K8,K9,ptr q,zv,.int .i64 (j : Nat),Kd,Ke,Kf,Kg,Kh,Ki,Kj,Kk,Kl,Km,Kn,Ko,Kp,Kq,Kr,Ks,Kt,Ku,Kv,Kw,Kx,Ky,Kz,J0,J1,J2,J3,J4,J5,J6,J7,J8,J9,Ja,Jb,Jc,Jd,Je,Jf,Jg,Jh,Ji,Jj,Jk,Jl,Jm,Jn,Jo,Jp,Jq,Jr,Js,Jt,Ju,Jv,Jw,Jx,Jy,Jz,Y0,Y1,Y2,Y3,Y4,Y5,Y6,Y7,Y8,Y9,Ya,Yb,Yc] H2 R := by
   intro H2 own2;intros;rename_i hK2 F2 hz2 hd2
   have hr2 : (stA.puts ls[j]).raw = none ↔ raw = false := by rw [← puts_raw,hrawA]; exact hraw
   obtain ⟨s1,s2⟩ := sx_size hK2 (by omega)
   obtain ⟨H3,ha,hb3,l3,k3⟩ := app1v (v := .int .i64 ((stA.puts ls[j]).size : Nat)) (bytes := 8) hz2 (by unfold roomCells; omega) (by omega)
   have en : nI zs ++ [.int .i64 (((stA.puts ls[j]).size : Nat) : Int)] = nI (zs ++ [(stA.puts ls[j]).size]) := by rw [nI,nI,List.map_append]; rfl
   rw [en] at hb3
   have elen : (zs ++ [(stA.puts ls[j]).size]).length = zs.length + 1 := by simp
   have hK3 : SX H3 e q own2 (stA.puts ls[j]) (N + ls[j].length) := hK2.keep fun id hid => k3 id (hK2.own_lt hid) (hd2 id hid)
   have F3 : SF hB H3 own0 own2 := ⟨by have := F2.len; omega,fun id hid hno => by
    have := F2.len
    rw [k3 id (by omega) (fun x => by have := hf id x; omega),F2.same id hid hno],fun id hid => by
    rcases F2.fresh id hid with y | y
    ·exact .inl y
    ·exact .inr ⟨y.1,by omega⟩⟩
   have ih' := fun K4 K5 K6 K7 K8 K9 Kd Ke Kf Kg Kh Ki Kj Kk Kl Km Kn Ko Kp Kq Kr Ks Kt Ku Kv Kw Kx Ky Kz J0 J1 J2 J3 J4 J5 J6 J7 J8 J9 Ja Jb Jc Jd Je Jf Jg Jh Ji Jj Jk Jl Jm Jn Jo Jp Jq Jr Js Jt Ju Jv Jw Jx Jy Jz Y0 Y1 Y2 Y3 Y4 Y5 Y6 Y7 Y8 Y9 Ya Yb Yc => ih (j + 1) H3 own2 (stA.puts ls[j]) (N + ls[j].length) (.slice (some ⟨H2.length + 1,0,none⟩) (zs.length + 1) 1) (zs ++ [(stA.puts ls[j]).size]) K4 K5 K6 K7 K8 K9 Kd Ke Kf Kg Kh Ki Kj Kk Kl Km Kn Ko Kp Kq Kr Ks Kt Ku Kv Kw Kx Ky Kz J0 J1 J2 J3 J4 J5 J6 J7 J8 J9 Ja Jb Jc Jd Je Jf Jg Jh Ji Jj Jk Jl Jm Jn Jo Jp Jq Jr Js Jt Ju Jv Jw Jx Jy Jz Y0 Y1 Y2 Y3 Y4 Y5 Y6 Y7 Y8 Y9 Ya Yb Yc (by omega) hK3 hr2 (fun l hl s hs => symOk_raw (hok l (List.mem_cons_of_mem _ hl) s hs) fun x => by rw [← hrawA]; exact (puts_raw _ _).2 x) (by omega) (by rw [elen]; omega) F3 (by rw [elen]; exact ⟨by simp [nI],.inr ⟨_,rfl,hb3⟩⟩) (fun id hid x => by
    simp [sid] at x
    have := hK2.own_lt hid
    omega) (fun id hid => by simp [sid] at hid; have := F2.len; omega) h1 (by rw [List.append_assoc]; exact h2)
   clear ih h1 h2
   generalize ((j + 1 : Nat) : Int) = j1 at *
   generalize (((stA.puts ls[j]).size : Nat) : Int) = zz at *
   generalize hL1 : L47_1 = L1 at *
   simp only [nthC,tlC,fstC,inB,L47_1b]
   cases raw with
   | false =>
    have s1' := s1 (hr2.2 rfl)
    simp [repL,s1',ha,hw]
    exact ih' ..
   | true =>
    have s2' := s2 (fun x => by have := hr2.1 x; simp at this)
    simp [repL,s2',ha,hw]
    exact ih' ..
  have hL := fun K4 K5 K6 K7 K8 K9 Ke Kf Kg Kh Ki Kj Kk Kl Km Kn Ko Kp Kq Kr Ks Kt Ku Kv Kw Kx Ky Kz J0 J1 J2 J3 J4 J5 J6 J7 J8 J9 Ja Jb Jc Jd Je Jf Jg Jh Ji Jj Jk Jl Jm Jn Jo Jp Jq Jr Js Jt Ju Jv Jw Jx Jy Jz Y0 Y1 Y2 Y3 Y4 Y5 Y6 Y7 Y8 Y9 Ya Yb Yc => xsym_loop (R := R) (e := e) (q := q) (hB := hB) (own0 := own0) (st0 := stA) (N0 := N) (i := j) (zv := zv) (zs := zs) (raw := raw) (rs := m.rst) (K := .code (tlC 2 (inB (fstC L47_1b))) :: .inBlock 1 :: .code (tlC 1 L47_1b) :: .inLoop L47_1 :: .inBlock 0 :: K) hpb hiv hpc hpno hyS.sl (hen j hiv) (fun s hs => by rw [hrawA]; exact hok _ (List.mem_cons_self ..) s hs) (by omega) (by rw [hrawA]; exact hraw)
   (fun H2 own2 K4 K5 K6 K7 K8 K9 Kd Ke Kf Kg Kh Ki Kj Kk Kl Km Kn Ko Kp Kq Kr Ks Kt Ku Kv Kw Kx Ky Kz J0 J1 J2 J3 J4 J5 J6 J7 J8 J9 Ja Jb Jc Jd Je Jf Jg Jh Ji Jj Jk Jl Jm Jn Jo Jp Jq Jr Js Jt Ju Jv Jw Jx Jy Jz Y0 Y1 Y2 Y3 Y4 Y5 Y6 Y7 Y8 Y9 Ya Yb Yc a b c d => by rw [← hsv]; exact tail H2 own2 _ _ _ _ _ _ _ _ _ _ _ _ _ _ _ _ _ _ _ _ _ _ _ _ _ _ _ _ _ _ _ _ _ _ _ _ _ _ _ _ _ _ _ _ _ _ _ _ _ _ _ _ _ _ _ _ _ _ _ _ _ _ _ _ _ _ _ _ _ _ _ _ _ _ _ _ _ _ a b c d) ls[j].length 0 HA ownA stA K4 K5 K6 K7 K8 K9 Ke Kf Kg Kh Ki Kj Kk Kl Km Kn Ko Kp Kq Kr Ks Kt Ku Kv Kw Kx Ky Kz J0 J1 J2 J3 J4 J5 J6 J7 J8 J9 Ja Jb Jc Jd Je Jf Jg Jh Ji Jj Jk Jl Jm Jn Jo Jp Jq Jr Js Jt Ju Jv Jw Jx Jy Jz Y0 Y1 Y2 Y3 Y4 Y5 Y6 Y7 Y8 Y9 Ya Yb Yc (by omega) rfl hKA (F.trans FA) hzA hdA
  rw [← hsv] at hL
  clear tail ih h1 h2 hk
  generalize hT2 : tlC 2 (inB (fstC L47_1b)) = T2 at *
  generalize hT1 : tlC 1 L47_1b = T1 at *
  rw [ok_round,l47_1,L47_1a,show L47_1b = .seq (.block 1 (.seq (nthC 0 (inB (fstC L47_1b))) (.seq (nthC 1 (inB (fstC L47_1b))) (tlC 2 (inB (fstC L47_1b)))))) (tlC 1 L47_1b) from rfl,hT2,hT1]
  generalize hL0 : L47_0 = L0 at *
  generalize hL1 : L47_1 = L1 at *
  simp only [nthC,tlC,fstC,inB,L47_1b,hL0]
  rw [hsv] at hL ⊢
  by_cases hc : m.rst = true ∧ raw = false
  ·have eA1 := eA hc.1 hc.2
   obtain ⟨hc1,hc2⟩ := hc
   rw [hc1,hc2] at hL ⊢
   simp [k_guard,k_guardU,hlt,hiv,eA1]
   exact hL ..
  ·have eA1 := eA' hc
   rw [eA1] at hL
   cases hr1 : m.rst with
   | false =>
    rw [hr1] at hL
    simp [k_guard,k_guardU,hlt,hiv]
    exact hL ..
   | true =>
    have hr2 : raw = true := by
     cases hx : raw with
     | true => rfl
     | false => exact absurd ⟨hr1,hx⟩ hc
    rw [hr1,hr2] at hL
    rw [hr2]
    simp [k_guard,k_guardU,hlt,hiv]
    exact hL ..
end
set_option maxRecDepth 10000
def SegAll (m : MD) : Nat → List Nat → Prop
 | _,[] => True
 | n,c :: cs => (∀ j,j < c → rawOf m (n + j) = rawOf m n) ∧ SegAll m (n + c) cs
theorem segAll_plain {m : MD} (hb : m.byp = false) : ∀ (l : List Nat) (n : Nat),SegAll m n l
 | [],_ => trivial
 | c :: cs,n => ⟨fun j _ => by simp [rawOf,hb],segAll_plain hb cs (n + c)⟩
theorem segAll_ones {m : MD} : ∀ (l : List Nat) (n : Nat),(∀ c ∈ l,c ≤ 1) → SegAll m n l
 | [],_,_ => trivial
 | c :: cs,n,h => ⟨fun j hj => by
   have := h c (List.mem_cons_self ..)
   have : j = 0 := by omega
   subst this; rfl,segAll_ones cs (n + c) fun x hx => h x (List.mem_cons_of_mem _ hx)⟩
theorem segAll_byp {m : MD} (hb : m.byp = true) (hr : m.res = false) : ∀ (f sz left n : Nat),(sz = 10 ∧ n = 0) ∨ (sz = 2 ∧ n % 3 = 1 ∧ 10 ≤ n) ∨ (sz = 1 ∧ n % 3 = 0 ∧ 12 ≤ n) → SegAll m n (sgGo m f sz left)
 | 0,_,_,_,_ => trivial
 | f + 1,sz,left,n,h => by
  have hnx : sgNext m sz = if sz = 2 then 1 else 2 := by unfold sgNext; rw [if_pos ⟨hb,hr⟩]
  unfold sgGo
  by_cases h0 : left = 0
  ·rw [if_pos h0]; trivial
  ·rw [if_neg h0]
   refine ⟨fun j hj => ?_,?_⟩
   ·rcases h with ⟨rfl,rfl⟩ | ⟨rfl,h2,h3⟩ | ⟨rfl,h2,h3⟩
    ·have e : ∀ k,k < 10 → rawOf m k = false := fun k hk => by
      have : planeOf k < 4 := by unfold planeOf; split <;> omega
      simp only [rawOf,Bool.and_eq_false_iff,decide_eq_false_iff_not]
      left; right; omega
     rw [e (0 + j) (by omega),e 0 (by omega)]
    ·have e : ∀ k,10 ≤ k → (k % 3 = 1 ∨ k % 3 = 2) → rawOf m k = true := fun k hk hk3 => by
      have e1 : planeOf k = (k - 1) / 3 + 1 := by unfold planeOf; rw [if_neg (by omega)]
      have e2 : kindOf k = (k - 1) % 3 := by unfold kindOf; rw [if_neg (by omega)]
      simp only [rawOf,hb,Bool.true_and,Bool.and_eq_true,decide_eq_true_eq,e1,e2]
      omega
     rw [e (n + j) (by omega) (by omega),e n (by omega) (by omega)]
    ·have : j = 0 := by omega
     subst this; rfl
   ·by_cases hlt : left < sz
    ·have e : left - min sz left = 0 := by omega
     rw [e]
     cases f with
     | zero => trivial
     | succ f => unfold sgGo; rw [if_pos rfl]; trivial
    ·have e : min sz left = sz := by omega
     rw [e]
     refine segAll_byp hb hr f _ _ _ ?_
     rw [hnx]
     rcases h with ⟨rfl,rfl⟩ | ⟨rfl,h2,h3⟩ | ⟨rfl,h2,h3⟩
     ·right; left; simp
     ·right; right; simp; omega
     ·right; left; simp; omega
theorem segAll_all (m : MD) (n : Nat) : SegAll m 0 (segsOf m n) := by
 unfold segsOf
 split
 ·trivial
 ·cases hb : m.byp with
  | false => exact segAll_plain hb _ _
  | true =>
   cases hr : m.res with
   | true =>
    have : sgFirst m n = 1 := by unfold sgFirst; rw [if_pos hr]
    rw [this]
    exact segAll_ones _ _ (sgGo_ones hr _ _)
   | false =>
    have : sgFirst m n = 10 := by unfold sgFirst; rw [if_neg (by simp [hr]),if_pos hb]
    rw [this]
    exact segAll_byp hb hr _ _ _ _ (.inl ⟨rfl,rfl⟩)
section
variable {R : Value → Heap → Prop} {e pb lb : Nat} {a : AE}
theorem segRun_rawN (m : MD) : ∀ (ls : List (List (Int × Nat))) (n : Nat) (st : S2),(segRun m n ls st).1.raw = none ↔ st.raw = none
 | [],_,st => Iff.rfl
 | l :: r,n,st => by
  rw [segRun]
  refine (segRun_rawN m r (n + 1) _).trans ((puts_raw _ _).symm.trans ?_)
  split <;> exact Iff.rfl
theorem firstUp_len {ds : List Nat} {size : Nat} (hd : Dig ds) : ∀ k,k ≤ ds.length → (firstUp ds size k).length ≤ ds.length
 | 0,hk => by
  rw [firstUp]
  cases hv : upR ds 0 size with
  | none => simp
  | some v =>
   have := trim_len v
   have := (upR_facts hd hk hv).2
   simp only; omega
 | k + 1,hk => by
  rw [firstUp]
  cases hv : upR ds (k + 1) size with
  | none => exact firstUp_len hd k (by omega)
  | some v =>
   have := trim_len v
   have := (upR_facts hd hk hv).2
   simp only; omega
theorem sx_bytes {h : Heap} {q N : Nat} {own : Nat → Prop} {st : S2} (K : SX h e q own st N) : st.bytes.length ≤ N + 4 := by
 obtain ⟨pb,lb,wv,I,J,dis,o⟩ := K.ex
 have bn := K.bn
 have dn := K.dn
 obtain ⟨a,raw⟩ := st
 cases raw with
 | none =>
  show a.bytes.length ≤ _
  have hb : firstUp a.ds a.size a.ds.length = a.bytes := bytes_up I.ok
  rw [← hb]
  have hf : (firstUp a.ds a.size a.ds.length).length ≤ a.ds.length := firstUp_len I.ok.dig _ (Nat.le_refl _)
  have dn' : a.ds.length ≤ N + 4 := dn
  exact Nat.le_trans hf dn'
 | some bs =>
  simp only [Option.getD_some] at bn
  show (segOf bs).length ≤ _
  rw [segOf,List.length_take]
  have := endAt_le bs bs.length
  omega
structure SegX (hB h' : Heap) (e pb lb pb' lb' : Nat) (b zv : Value) (r : S2 × List Nat) : Prop where
 xa : XA h' e pb' lb' r.1.after
 h19 : r.1.after.p.length = 19
 bs : Sl h' 1 b r.1.bytes.length (nU r.1.bytes)
 zs : OwnS h' 1 zv r.2.length (nI r.2)
 fr : SF hB h' (ownX e pb lb) (ownX e pb' lb')
 fb : ∀ id,sid b = some id → hB.length ≤ id ∧ id < h'.length
 fz : ∀ id,sid zv = some id → hB.length ≤ id
 no : ∀ id,ownX e pb' lb' id → sid b ≠ some id ∧ sid zv ≠ some id
 bl : r.1.bytes.length ≤ 900004
set_option maxHeartbeats 1000000 in
theorem segment_x {hB : Heap} {m : MD} {n : Nat} {sv : Value} {vs : List Value} {ls : List (List (Int × Nat))} {raw : Bool} (I : XA hB e pb lb a) (hab : a = AE.begin a.p) (h19 : a.p.length = 19) (hp : Pss hB sv vs ls) (hpn : ∀ id,sid sv = some id → ¬ ownX e pb lb id) (hen : ∀ i (h1 : i < vs.length) id,sid vs[i] = some id → ¬ ownX e pb lb id)
  (hls : ls.length ≤ 178) (hrw : ∀ j,j < ls.length → rawOf m (n + j) = raw) (hok : ∀ l ∈ ls,∀ s ∈ l,SymOk (if raw = true then some [] else none : Option (List Nat)) s) (hN : totL ls ≤ 900000) :
  ∃ b zv h' pb' lb',(∀ R,Ret tab 47 [ptr e,sv,.bool raw,.bool m.rst] hB R = R (.tuple #[b,zv]) h') ∧ SegX hB h' e pb lb pb' lb' b zv (segRun m n ls ⟨a,if raw = true then some [] else none⟩) := by
 have key : ∀ R0 : Value → Heap → Prop,(∀ b zv h' pb' lb',SegX hB h' e pb lb pb' lb' b zv (segRun m n ls ⟨a,if raw = true then some [] else none⟩) → R0 (.tuple #[b,zv]) h') → Ret tab 47 [ptr e,sv,.bool raw,.bool m.rst] hB R0 := by
  intro R0 hR
  obtain ⟨e1,J⟩ := newW_x (h := hB)
  generalize hW : hB ++ [some (⟨false,[.bool true,.slice none 0 0]⟩ : Blk)] = W at *
  have lW : W.length = hB.length + 1 := by rw [← hW]; simp
  have kW : ∀ id,id < hB.length → blk? W id = blk? hB id := fun id hid => by rw [← hW]; exact blk?_push_lt hid
  generalize hG : W ++ [some (⟨false,[]⟩ : Blk)] = G
  have lG : G.length = hB.length + 2 := by rw [← hG]; simp; omega
  have kG : ∀ id,id < W.length → blk? G id = blk? W id := fun id hid => by rw [← hG]; exact blk?_push_lt hid
  have bG : blk? G W.length = some ⟨false,[]⟩ := by rw [← hG]; exact blk?_push_eq
  generalize hst : (⟨a,if raw = true then some [] else none⟩ : S2) = st0 at *
  have hsta : st0.a = a := by rw [← hst]
  have hstr : st0.raw = none ↔ raw = false := by rw [← hst]; cases raw <;> simp
  have hbits : st0.raw.getD [] = [] := by rw [← hst]; cases raw <;> rfl
  have hS : S2Ok st0 := ⟨by rw [hsta]; exact I.ok,by rw [hsta]; exact h19,fun bs hbs => by
   have : bs = [] := by rw [hbs] at hbits; simpa using hbits
   subst this; intro b hb; cases hb⟩
  have IG : XA G e pb lb a := I.keep fun id hid => by rw [kG id (by have := I.own_lt hid; omega),kW id (I.own_lt hid)]
  have JG : WX G hB.length (.slice none 0 0) [] := J.keep fun id hid => kG id (J.own_lt hid)
  have K0 : SX G e hB.length (fun id => ownX e pb lb id ∨ ownR hB.length (.slice none 0 0) id) st0 0 := by
   refine ⟨⟨pb,lb,.slice none 0 0,by rw [hsta]; exact IG,by rw [hbits]; exact JG,fun id hid x => ?_,fun id => Iff.rfl⟩,by rw [hsta]; exact h19,by rw [hsta,hab]; simp [AE.begin],by rw [hbits]; simp⟩
   rcases x with x | x
   ·have := I.own_lt hid; omega
   ·simp [sid] at x
  have F0 : SF hB G (ownX e pb lb) (fun id => ownX e pb lb id ∨ ownR hB.length (.slice none 0 0) id) := ⟨by omega,fun id hid _ => by rw [kG id (by omega),kW id hid],fun id hid => by
   rcases hid with x | x | x
   ·exact .inl x
   ·exact .inr ⟨by omega,by omega⟩
   ·simp [sid] at x⟩
  have hok' : ∀ l ∈ ls.drop 0,∀ s ∈ l,SymOk st0.raw s := by rw [List.drop_zero,← hst]; exact hok
  obtain ⟨hS1,_⟩ := segRun_st m ls n st0 hS (by rw [← hst]; exact hok)
  obtain ⟨_,h19'⟩ := after_st hS1
  have L := fun K4 K5 K6 K7 K8 K9 Kd Ke Kf Kg Kh Ki Kj Kk Kl Km Kn Ko Kp Kq Kr Ks Kt Ku Kv Kw Kx Ky Kz J0 J1 J2 J3 J4 J5 J6 J7 J8 J9 Ja Jb Jc Jd Je Jf Jg Jh Ji Jj Jk Jl Jm Jn Jo Jp Jq Jr Js Jt Ju Jv Jw Jx Jy Jz Y0 Y1 Y2 Y3 Y4 Y5 Y6 Y7 Y8 Y9 Ya Yb Yc => xpass_loop (R := R0) (e := e) (q := hB.length) (hB := hB) (own0 := ownX e pb lb) (m := m) (n := n) (raw := raw) (stF := (segRun m n ls st0).1) (zsF := (segRun m n ls st0).2) (NF := totL ls) hp hpn hen hls hrw hN (K := [.code (tlC 4 B47)])
   (fun H own zv K4 K5 K6 K7 K8 K9 Kc Kd Ke Kf Kg Kh Ki Kj Kk Kl Km Kn Ko Kp Kq Kr Ks Kt Ku Kv Kw Kx Ky Kz J0 J1 J2 J3 J4 J5 J6 J7 J8 J9 Ja Jb Jc Jd Je Jf Jg Jh Ji Jj Jk Jl Jm Jn Jo Jp Jq Jr Js Jt Ju Jv Jw Jx Jy Jz Y0 Y1 Y2 Y3 Y4 Y5 Y6 Y7 Y8 Y9 Ya Yb Yc hK F hz hd hf => by
    obtain ⟨pb1,lb1,wv1,I1,J1',dis1,o1⟩ := hK.ex
    have hr1 : (segRun m n ls st0).1.raw = none ↔ raw = false := (segRun_rawN m ls n st0).trans hstr
    generalize hrr : segRun m n ls st0 = r at *
    obtain ⟨st1,zs⟩ := r
    obtain ⟨a1,raw1⟩ := st1
    have dn := hK.dn
    have bn := hK.bn
    simp only at I1 J1' hr1 dn bn hR h19' hz hS1
    have own1 : ∀ id,ownX e pb1 lb1 id → own id := fun id hid => (o1 id).2 (.inl hid)
    have hbl := sx_bytes hK
    simp only at hbl
    cases raw1 with
    | none =>
     have hraw : raw = false := hr1.1 rfl
     obtain ⟨h',lb',w,et,It,Ft,st,ft⟩ := term_x I1 (by omega)
     have hzn : ∀ id,sid zv = some id → ¬ ownX e pb1 lb1 id := fun id hid x => hd id (own1 id x) hid
     have hR' := hR w zv h' pb1 lb' ⟨It,h19',st,hz.of_blk fun id hid hb => by rw [Ft.same id (blk?_lt hb) (hzn id hid)]; exact hb,
      ⟨by have := F.len; have := Ft.len; omega,fun id hid hno => by
       have := F.len
       rw [Ft.same id (by omega) (fun x => by
        rcases F.fresh id (own1 id x) with y | y
        ·exact hno y
        ·omega),F.same id hid hno],fun id hid => by
       rcases Ft.fresh id hid with y | y
       ·rcases F.fresh id (own1 id y) with z | z
        ·exact .inl z
        ·exact .inr ⟨z.1,by have := Ft.len; omega⟩
       ·exact .inr ⟨by have := F.len; omega,y.2⟩⟩,
      fun id hid => ⟨by have := (ft id hid).1; have := F.len; omega,(ft id hid).2.1⟩,hf,fun id hid => ⟨fun x => (ft id x).2.2 hid,fun x => by
       rcases Ft.fresh id hid with y | y
       ·exact hzn id x y
       ·have := hz.lt x; omega⟩,by simp only; omega⟩
     rw [hraw]
     simp only [nthC,tlC,fstC,B47]
     simp [et,fin47]
     exact hR'
    | some bs =>
     have hraw : raw = true := by
      cases hx : raw with
      | true => rfl
      | false => have := hr1.2 hx; simp at this
     simp only [Option.getD_some] at J1' bn
     obtain ⟨h',w,et,st,ft,kt,lt⟩ := wterm_x J1' (by omega)
     have hqo : own hB.length := (o1 _).2 (.inr (.inl rfl))
     have hne : ∀ id,ownX e pb1 lb1 id → id ≠ hB.length := fun id hid x => dis1 id hid (.inl x)
     have hzq : ∀ id,sid zv = some id → id ≠ hB.length := fun id hid x => hd id (by rw [x]; exact hqo) hid
     have hR' := hR w zv h' pb1 lb1 ⟨I1.keep fun id hid => kt id (I1.own_lt hid) (hne id hid),h19',st,hz.of_blk fun id hid hb => by rw [kt id (blk?_lt hb) (hzq id hid)]; exact hb,
      ⟨by have := F.len; omega,fun id hid hno => by
       have := F.len
       rw [kt id (by omega) (by omega),F.same id hid hno],fun id hid => by
       rcases F.fresh id (own1 id hid) with z | z
       ·exact .inl z
       ·exact .inr ⟨z.1,by omega⟩⟩,
      fun id hid => ⟨by have := (ft id hid).1; have := F.len; omega,(ft id hid).2⟩,hf,fun id hid => ⟨fun x => by have := (ft id x).1; have := I1.own_lt hid; omega,fun x => hd id (own1 id hid) x⟩,by simp only; omega⟩
     rw [hraw]
     simp only [nthC,tlC,fstC,B47]
     simp [et,fin47]
     exact hR') ls.length 0 G _ st0 0 (.slice (some ⟨W.length,0,none⟩) 0 1) [] K4 K5 K6 K7 K8 K9 Kd Ke Kf Kg Kh Ki Kj Kk Kl Km Kn Ko Kp Kq Kr Ks Kt Ku Kv Kw Kx Ky Kz J0 J1 J2 J3 J4 J5 J6 J7 J8 J9 Ja Jb Jc Jd Je Jf Jg Jh Ji Jj Jk Jl Jm Jn Jo Jp Jq Jr Js Jt Ju Jv Jw Jx Jy Jz Y0 Y1 Y2 Y3 Y4 Y5 Y6 Y7 Y8 Y9 Ya Yb Yc (by omega) K0 hstr hok' (by rw [List.drop_zero]; omega) (by simp) F0 ⟨rfl,.inr ⟨W.length,rfl,bG⟩⟩ (fun id hid x => by
      simp [sid] at x
      rcases hid with y | y | y
      ·have := I.own_lt y; omega
      ·omega
      ·simp [sid] at y) (fun id hid => by simp [sid] at hid; omega) (by rw [List.drop_zero,Nat.add_zero]) (by rw [List.drop_zero,Nat.add_zero,List.nil_append])
  rw [enter47,show B47 = .seq (nthC 0 B47) (.seq (nthC 1 B47) (.seq (nthC 2 B47) (.seq (nthC 3 B47) (tlC 4 B47)))) from rfl]
  generalize hT : tlC 4 B47 = tl at *
  simp only [nthC,tlC,fstC,B47]
  simp [repL,e1,hG]
  exact L ..
 obtain ⟨v,h',ee,b,zv,pb',lb',rfl,a1⟩ := ret_ex (key (fun v h' => ∃ b zv pb' lb',v = .tuple #[b,zv] ∧ SegX hB h' e pb lb pb' lb' b zv (segRun m n ls ⟨a,if raw = true then some [] else none⟩)) fun b zv h' pb' lb' x => ⟨b,zv,pb',lb',rfl,x⟩)
 exact ⟨b,zv,h',pb',lb',ee,a1⟩
end
set_option maxRecDepth 10000
structure CdV (B : Nat) (h : Heap) (v : Value) (r : Cd) : Prop where
 ex : ∃ pv dv,v = .agg #[.int .i64 (r.pl : Nat),pv,dv] ∧ OwnS h 1 pv r.ps.length (nI r.ps) ∧ OwnS h 1 dv r.ds.length (nU r.ds) ∧ (∀ id,sid pv = some id → B ≤ id ∧ sid dv ≠ some id) ∧ (∀ id,sid dv = some id → B ≤ id)
theorem CdV.none (B : Nat) (h : Heap) : CdV B h (.agg #[.int .i64 0,.slice none 0 0,.slice none 0 0]) ⟨0,[],[]⟩ :=
 ⟨⟨_,_,rfl,OwnS.nil _ _,OwnS.nil _ _,fun id hid => by simp [sid] at hid,fun id hid => by simp [sid] at hid⟩⟩
section
variable {h : Heap} {R : Value → Heap → Prop} {k : List RItem}
set_option maxHeartbeats 4000000 in
theorem encode_c {s : Value} {xs : List Int} (hi : Ints h s xs) (hl : xs.length < 9000000000) (w hh o : Int) (m : MD) (hN : totL (symRes xs w hh o m).2 ≤ 900000) :
  ∃ v h',(∀ R,Ret tab 17 [s,.int .i64 w,.int .i64 hh,.int .i64 o,m.val] h R = R (.tuple #[v,.int .i64 (encRes xs w hh o m).1]) h') ∧ CdV h.length h' v (encRes xs w hh o m).2 ∧ (∀ id,id < h.length → blk? h' id = blk? h id) ∧ h.length ≤ h'.length := by
 have key : Ret tab 17 [s,.int .i64 w,.int .i64 hh,.int .i64 o,m.val] h fun v h' => ∃ c,v = .tuple #[c,.int .i64 (encRes xs w hh o m).1] ∧ CdV h.length h' c (encRes xs w hh o m).2 ∧ (∀ id,id < h.length → blk? h' id = blk? h id) ∧ h.length ≤ h'.length := by
  have main : ∀ R0 : Value → Heap → Prop,(∀ c h',CdV h.length h' c (encRes xs w hh o m).2 → (∀ id,id < h.length → blk? h' id = blk? h id) → h.length ≤ h'.length → R0 (.tuple #[c,.int .i64 (encRes xs w hh o m).1]) h') →
    Ret tab 17 [s,.int .i64 w,.int .i64 hh,.int .i64 o,m.val] h R0 := by
   intro R0 hR
   generalize hH1 : h ++ [some (⟨false,[.bool m.byp,.bool m.res,.bool m.rst,.bool m.cz,.bool m.sy]⟩ : Blk),some ⟨false,[.int .i64 0,.slice none 0 0,.slice none 0 0]⟩] = H1
   have l1 : H1.length = h.length + 2 := by rw [← hH1]; simp
   have k1 : ∀ id,id < h.length → blk? H1 id = blk? h id := fun id hid => by rw [← hH1]; exact app_lt hid
   have bM1 : blk? H1 h.length = some ⟨false,[.bool m.byp,.bool m.res,.bool m.rst,.bool m.cz,.bool m.sy]⟩ := by rw [← hH1,app_len]; rfl
   have bX1 : blk? H1 (h.length + 1) = some ⟨false,[.int .i64 0,.slice none 0 0,.slice none 0 0]⟩ := by rw [← hH1,app_add]; rfl
   have hi1 : Ints H1 s xs := hi.keep (by omega) (fun id hid _ => k1 id hid)
   obtain ⟨sv,H2,e1,o1⟩ := symbols_c hi1 hl w hh o m
   have len2 := o1.len
   obtain ⟨vs,hp⟩ := o1.pss
   have bM2 : blk? H2 h.length = some ⟨false,[.bool m.byp,.bool m.res,.bool m.rst,.bool m.cz,.bool m.sy]⟩ := by rw [o1.low _ (by omega)]; exact bM1
   have bX2 : blk? H2 (h.length + 1) = some ⟨false,[.int .i64 0,.slice none 0 0,.slice none 0 0]⟩ := by rw [o1.low _ (by omega)]; exact bX1
   have k2 : ∀ id,id < h.length → blk? H2 id = blk? h id := fun id hid => by rw [o1.low _ (by omega),k1 id hid]
   simp only [MD.val] at e1
   rw [enter17,show B17 = .seq (nthC 0 B17) (.seq (nthC 1 B17) (.seq (nthC 2 B17) (tlC 3 B17))) from rfl]
   generalize hT : tlC 3 B17 = tl
   simp only [nthC,tlC,fstC,B17]
   by_cases h0 : (symRes xs w hh o m).1 = 0
   case neg =>
    have hne : ((symRes xs w hh o m).1 != 0) = true := by simpa using h0
    have hr : encRes xs w hh o m = ((symRes xs w hh o m).1,⟨0,[],[]⟩) := by unfold encRes; simp only [ne_eq,h0,not_false_eq_true,if_true]
    rw [hr] at hR
    simp [MD.val,hH1,bM1,e1,hne,bX2,blk?_set_eq (blk?_lt bX2),finishV,R17,allSome,resV]
    refine hR _ _ (CdV.none _ _) (fun id hid => ?_) (by simp; omega)
    rw [blk?_set_ne (by omega),k2 id hid]
   have hne : ((symRes xs w hh o m).1 != 0) = false := by simpa using h0
   obtain ⟨hp60,hlen⟩ := symRes_len h0
   have hsym := symRes_sym h0
   have hr0 : encRes xs w hh o m = if 65535 < (encSegs m (symRes xs w hh o m).2 (segsOf m (symRes xs w hh o m).2.length) 0 (AE.begin (AE.base 19)) [] []).2.length then (5,⟨0,[],[]⟩) else (0,⟨planesOf xs,(encSegs m (symRes xs w hh o m).2 (segsOf m (symRes xs w hh o m).2.length) 0 (AE.begin (AE.base 19)) [] []).1,(encSegs m (symRes xs w hh o m).2 (segsOf m (symRes xs w hh o m).2.length) 0 (AE.begin (AE.base 19)) [] []).2⟩) := by
    unfold encRes; simp only [ne_eq,h0,not_true_eq_false,if_false]
   rw [hr0] at hR
   generalize hls : (symRes xs w hh o m).2 = ls at *
   generalize hq : encSegs m ls (segsOf m ls.length) 0 (AE.begin (AE.base 19)) [] [] = q at *
   obtain ⟨PF,DF⟩ := q
   simp only at hR
   simp [MD.val,hH1,bM1,e1,hne]
   rw [← hT]
   clear hT e1
   obtain ⟨H3,e,pb,e2,hA,he,hpb,len3,k3⟩ := newEnc_c (h := H2) (n := 19) (by omega) (by omega)
   have hi3 : Ints H3 s xs := hi1.keep (by omega) (fun id hid _ => by rw [k3 id (by omega),o1.low id hid])
   have e3 := fun R => planes_c (R := R) hi3 hl
   generalize hH4 : H3 ++ [some (⟨false,[.int .i64 (planesOf xs : Nat),.slice none 0 0,.slice none 0 0]⟩ : Blk)] = H4
   have l4 : H4.length = H3.length + 1 := by rw [← hH4]; simp
   have k4 : ∀ id,id < H3.length → blk? H4 id = blk? H3 id := fun id hid => by rw [← hH4]; exact blk?_push_lt hid
   have bX4 : blk? H4 H3.length = some ⟨false,[.int .i64 (planesOf xs : Nat),.slice none 0 0,.slice none 0 0]⟩ := by rw [← hH4]; exact blk?_push_eq
   have bM4 : blk? H4 h.length = some ⟨false,[.bool m.byp,.bool m.res,.bool m.rst,.bool m.cz,.bool m.sy]⟩ := by rw [k4 _ (by omega),k3 _ (by omega)]; exact bM2
   obtain ⟨H5,gv,e4,og,k5,len5,gB⟩ := segs_c (h := H4) ls.length m (by omega)
   obtain ⟨sg1,sg2,sg3⟩ := segs_sum (m := m) (n := ls.length) (by omega)
   obtain ⟨ga,gc,hgv⟩ := og.sl.shape
   obtain ⟨sa,sc,hsv⟩ := hp.sl.shape
   have hvl := hp.len
   have hOI : OI H2 H5 e H3.length (.int .i64 (planesOf xs : Nat)) gv (segsOf m ls.length) (AE.begin (AE.base 19)) (.slice none 0 0) (.slice none 0 0) [] [] 0 := by
    refine ⟨⟨pb,_,[],0,hA.keep fun id hid => ?_,by simp,fun id hid => ?_⟩,by simp [AE.begin,AE.base],?_,OwnS.nil _ _,OwnS.nil _ _,og.sl,fun id hid => ⟨by have := gB id hid; omega,og.lt hid⟩,len3,fun id hid => by simp [sid] at hid,fun id hid => by simp [sid] at hid,fun id hid => ?_,by omega⟩
    ·have := hA.own_lt hid
     rw [k5 id (by omega),k4 id this]
    ·have := hA.own_lt hid
     refine ⟨?_,by omega,by simp [sid],by simp [sid],fun x => by have := gB id x; omega⟩
     rcases hid with rfl | rfl | hid
     ·exact he
     ·exact hpb
     ·simp [sid] at hid
    ·rw [k5 _ (by omega)]; exact bX4
    ·rw [k5 _ (by omega),k4 _ (by omega),k3 id hid]
   have hL := fun K0 K1 K2 K3 K4 K5 K6 K7 K8 Kb Kd Kh Ki Kj Kk Kl Km Kn Ko Kp Kq Kr Ks Kt Ku Kv Kw Kx Ky Kz J0 J1 J2 J3 J4 J5 J6 J7 J8 J9 Ja Jb Jc Jd Je Jf Jg Jk Jl Jm Jn Jo Jp Jq Jr Js Jt Ju Jv Jw Jx Jy Jz Y0 Y1 Y2 Y3 Y4 Y5 Y6 Y7 Y8 Y9 Ya Yb Yc Yd Ye Yf Yg Yh Yi Yj Yk Yl Ym Yn Yo Yp Yq Yr Ys Yt Yu Yv Yw Yx Yy Yz Z0 Z1 Z2 Z3 Z4 Z5 Z6 Z7 Z8 Z9 Za Zb Zc Zd Ze Zf Zg Zh Zi Zj Zk Zl Zm Zn Zo Zp Zq Zr Zs Zt Zu Zv Zw Zx Zy Zz K0q K1q K2q K3q => seg_loop_e (R := R0) (k := [.code (tlC 8 B17)]) (M := h.length) (X0 := h.length + 1) (X := H3.length) (sv := sv) (gv := gv) (pl := .int .i64 (planesOf xs : Nat)) (e := e) (gs := segsOf m ls.length) (PF := PF) (DF := DF) hp bM2 (by omega) (by omega) (fun i h1 => hsym i h1)
    (fun H6 a pv dv N K0 K1 K2 K3 K4 K5 K6 K7 K8 Kb Kc Kd Ke Kg Kh Ki Kj Kk Kl Km Kn Ko Kp Kq Kr Ks Kt Ku Kv Kw Kx Ky Kz J0 J1 J2 J3 J4 J5 J6 J7 J8 J9 Ja Jb Jc Jd Je Jf Jg Jh Ji Jj Jk Jl Jm Jn Jo Jp Jq Jr Js Jt Ju Jv Jw Jx Jy Jz Y0 Y1 Y2 Y3 Y4 Y5 Y6 Y7 Y8 Y9 Ya Yb Yc Yd Ye Yf Yg Yh Yi Yj Yk Yl Ym Yn Yo Yp Yq Yr Ys Yt Yu Yv Yw Yx Yy Yz Z0 Z1 Z2 Z3 Z4 Z5 Z6 Z7 Z8 Z9 Za Zb Zc Zd Ze Zf Zg Zh Zi Zj Zk Zl Zm Zn Zo Zp Zq Zr Zs Zt Zu Zv Zw Zx Zy Zz K0q K1q K2q K3q I => by
     obtain ⟨da,dc,hdv⟩ := I.od.sl.shape
     have bx := I.bx
     have bX6 : blk? H6 (h.length + 1) = some ⟨false,[.int .i64 0,.slice none 0 0,.slice none 0 0]⟩ := by rw [I.low _ (by omega)]; exact bX2
     have hX6 := blk?_lt bX6
     have lowS : ∀ x : Option Blk,∀ id,id < h.length → blk? (H6.set (h.length + 1) x) id = blk? h id := fun x id hid => by rw [blk?_set_ne (by omega),I.low id (by omega),k2 id hid]
     have len6 := I.len
     show Ok tab R17 [.code (.seq (nthC 8 B17) (tlC 9 B17))] _ H6 R0
     simp only [nthC,tlC,fstC,B17]
     by_cases hbig : 65535 < DF.length
     ·rw [if_pos hbig] at hR
      have hb' : (65535 : Int) < (DF.length : Int) := by omega
      rw [hdv] at bx
      generalize hDl : DF.length = dl at *
      simp [bx,hb',bX6,blk?_set_eq hX6,finishV,R17,allSome,resV]
      exact hR _ _ (CdV.none _ _) (fun id hid => lowS _ id hid) (by simp; omega)
     ·rw [if_neg hbig] at hR
      have hb' : ¬ (65535 : Int) < (DF.length : Int) := by omega
      rw [hdv] at bx
      have hne6 : ¬ h.length + 1 = H3.length := by omega
      generalize hDl : DF.length = dl at *
      simp [bx,hb',bX6,blk?_set_eq hX6,finishV,R17,allSome,resV]
      refine hR _ _ ⟨⟨pv,dv,by rw [hdv],I.op.of_blk fun id hid hb => ?_,?_,fun id hid => ?_,fun id hid => ?_⟩⟩ (fun id hid => lowS _ id hid) (by simp; omega)
      ·rw [blk?_set_ne (by have := (I.pB id hid).1; omega)]; exact hb
      ·exact I.od.of_blk fun id hid hb => by rw [blk?_set_ne (by have := (I.dB id hid).1; omega)]; exact hb
      ·have := I.pB id hid; exact ⟨by omega,this.2.2.1⟩
      ·have := I.dB id hid; omega)
    (segsOf m ls.length).length 0 0 H5 (AE.begin (AE.base 19)) (.slice none 0 0) (.slice none 0 0) [] [] 0 K0 K1 K2 K3 K4 K5 K6 K7 K8 Kb Kd Kh Ki Kj Kk Kl Km Kn Ko Kp Kq Kr Ks Kt Ku Kv Kw Kx Ky Kz J0 J1 J2 J3 J4 J5 J6 J7 J8 J9 Ja Jb Jc Jd Je Jf Jg Jk Jl Jm Jn Jo Jp Jq Jr Js Jt Ju Jv Jw Jx Jy Jz Y0 Y1 Y2 Y3 Y4 Y5 Y6 Y7 Y8 Y9 Ya Yb Yc Yd Ye Yf Yg Yh Yi Yj Yk Yl Ym Yn Yo Yp Yq Yr Ys Yt Yu Yv Yw Yx Yy Yz Z0 Z1 Z2 Z3 Z4 Z5 Z6 Z7 Z8 Z9 Za Zb Zc Zd Ze Zf Zg Zh Zi Zj Zk Zl Zm Zn Zo Zp Zq Zr Zs Zt Zu Zv Zw Zx Zy Zz K0q K1q K2q K3q (by omega) hOI (by rw [List.drop_zero]; omega) (fun c hc => (sg3 c hc).1) (by rw [List.drop_zero]; exact segOk_all m _) (by rw [List.drop_zero]; omega) rfl (by simp; omega) (by rw [List.drop_zero]; exact hq)
   show Ok tab R17 [.code (.seq (nthC 3 B17) (.seq (nthC 4 B17) (.seq (nthC 5 B17) (.seq (nthC 6 B17) (.seq (nthC 7 B17) (tlC 8 B17))))))] _ H2 R0
   generalize hT : tlC 8 B17 = tl at *
   simp only [nthC,tlC,fstC,B17]
   simp only [Int.cast_ofNat_Int] at e2 hL
   have bM5 : blk? H4 h.length = some ⟨false,[.bool m.byp,.bool m.res,.bool m.rst,.bool m.cz,.bool m.sy]⟩ := bM4
   rw [hgv] at hL e4
   rw [hsv,hvl] at hL ⊢
   simp only [MD.val] at e4
   generalize (segsOf m ls.length).length = gl at *
   have b9 : blk? (H3 ++ [some (⟨false,[.int .i64 0,.slice none 0 0,.slice none 0 0]⟩ : Blk)]) H3.length = some ⟨false,[.int .i64 0,.slice none 0 0,.slice none 0 0]⟩ := blk?_push_eq
   have s9 : (H3 ++ [some (⟨false,[.int .i64 0,.slice none 0 0,.slice none 0 0]⟩ : Blk)]).set H3.length (some ⟨false,[.int .i64 (planesOf xs : Nat),.slice none 0 0,.slice none 0 0]⟩) = H4 := by rw [← hH4]; simp
   simp [e2,e3,b9,s9,bM4,e4]
   exact hL ..
  exact main _ fun c h' a b d => ⟨c,rfl,a,b,d⟩
 obtain ⟨v,h',e,c,rfl,a,b,d⟩ := ret_ex key
 exact ⟨c,h',e,a,b,d⟩
end
structure QR (h : Heap) (f : Bool) (q p c : Nat) (P : PP) (m : MD) (sv : Value) (b : BS) : Prop where
 blk : blk? h q = some ⟨f,[ptr p,.int .i64 P.s,.int .i64 P.o,.bool m.byp,.bool m.res,.bool m.rst,.bool P.cz,.bool m.sy,.bool P.rw,sv]⟩
 cb : CB h f p c b
 sb : below h.length sv = true
 pok : P.Ok
 rng : b.Rng
theorem QR.frz {h : Heap} {f : Bool} {q p c : Nat} {P : PP} {m : MD} {sv : Value} {b : BS} (hr : QR h f q p c P m sv b) : QR (frz h) true q p c P m sv b :=
 ⟨blk_frz hr.blk (by simp [hr.sb,blk?_lt hr.cb.blkp]),hr.cb.frz,by rw [len_frz]; exact hr.sb,hr.pok,hr.rng⟩
section
variable {h : Heap} {f : Bool} {q p c : Nat} {P : PP} {m : MD} {sv : Value} {b : BS} {x y : Int} {R : Value → Heap → Prop}
theorem bit_r (hr : QR h f q p c P m sv b) : Ret tab 170 [ptr q,.int .i64 x,.int .i64 y] h R = R (.int .i64 (bitOf (b.get x y).v P.s)) h := by
 have hq := hr.frz.blk
 have hlq := blk?_lt hr.blk
 obtain ⟨r1,r2⟩ := hr.rng x y
 have hm := fun R => abs_r (h := Go.Sim.frz h) (R := R) (v := (b.get x y).v) (by omega) (by omega)
 have hs := hr.pok.s1
 have hw : IntKind.u64.wrap (P.s : Int) = (P.s : Int) := wrapU (by omega)
 have hs' : ¬ (P.s : Int) < 0 := by omega
 have hsh : shrI .u64 ((b.get x y).v.natAbs : Int) (P.s : Int) = (((b.get x y).v.natAbs / 2 ^ P.s : Nat) : Int) := shrN (show P.s ≤ 64 by omega)
 have hle : (b.get x y).v.natAbs / 2 ^ P.s ≤ (b.get x y).v.natAbs := shr_le
 have h63 : (b.get x y).v.natAbs < 9223372036854775808 := by omega
 have ha := and1u (a := (b.get x y).v.natAbs / 2 ^ P.s) (by omega)
 have hwi : IntKind.i64.wrap (((b.get x y).v.natAbs / 2 ^ P.s % 2 : Nat) : Int) = (((b.get x y).v.natAbs / 2 ^ P.s % 2 : Nat) : Int) := wrapN (by omega)
 rw [enter170,B170]
 unfold bitOf
 have hv : ∀ R,Ret tab 71 [ptr p,.int .i64 x,.int .i64 y] (Go.Sim.frz h) R = R (.int .i64 (b.get x y).v) (Go.Sim.frz h) := fun R => value_r hr.frz.cb
 generalize hn : (b.get x y).v.natAbs / 2 ^ P.s = n at *
 generalize (b.get x y).v.natAbs = na at *
 simp [-Int.natCast_ediv,-Int.natCast_emod,hq,hlq,hv,hm,hw,hs',hsh,hwi,ha,fin170,book,logOf,addLog,chk1,lookL,reload]
theorem near_r (hr : QR h f q p c P m sv b) (hi : b.inb x y) : Ret tab 167 [ptr q,.int .i64 x,.int .i64 y] h R = R (.int .i64 (nbH b x y + nbV b x y P.cz + nbD b x y P.cz : Nat)) h := by
 have hq := hr.frz.blk
 have hlq := blk?_lt hr.blk
 obtain ⟨n1,n2,n3⟩ := nb_le b x y P.cz
 have s1 : IntKind.i64.wrap ((nbH b x y : Int) + (nbV b x y P.cz : Int)) = ((nbH b x y + nbV b x y P.cz : Nat) : Int) := wrapNN (by omega)
 have s2 : IntKind.i64.wrap (((nbH b x y + nbV b x y P.cz : Nat) : Int) + (nbD b x y P.cz : Int)) = ((nbH b x y + nbV b x y P.cz + nbD b x y P.cz : Nat) : Int) := wrapNN (by omega)
 rw [enter167,B167]
 simp [-Int.natCast_add,hq,hlq,neighbors_r hr.frz.cb hi,s1,s2,fin167]
theorem quiet_loop_r (hr : QR h true q p c P m sv b) {x : Int} (hx : 0 ≤ x ∧ x < b.w) {top : Int} (ht : 0 ≤ top ∧ top + 4 ≤ b.h) {k : List RItem} {R : Value → Heap → Prop} {v3 v8 : Value}
  (hk : ∀ K4 K5 K6 K7 K9 Ka Kb Kc Kd Ke Kf Kg Kh Ki Kj Kk Kl Km Kn Ko Kp Kq Kr Ks Kt Ku Kv Kw Kx Ky Kz J0 J1 J2 J3 J4 J5 J6 J7 J8 J9 Ja Jb Jc Jd Je Jf : Value,Ok tab R171 k #[ptr q,.int .i64 x,.int .i64 top,v3,K4,K5,K6,K7,v8,K9,Ka,Kb,Kc,Kd,Ke,Kf,Kg,Kh,Ki,Kj,Kk,Kl,Km,Kn,Ko,Kp,Kq,Kr,Ks,Kt,Ku,Kv,Kw,Kx,Ky,Kz,J0,J1,J2,J3,J4,J5,J6,J7,J8,J9,Ja,Jb,Jc,Jd,Je,Jf] h R = R (.bool true) h) :
  ∀ (n i : Nat) (K4 K5 K6 K7 Ka Kb Kc Kd Ke Kf Kg Kh Ki Kj Kk Kl Km Kn Ko Kp Kq Kr Ks Kt Ku Kv Kw Kx Ky Kz J0 J1 J2 J3 J4 J5 J6 J7 J8 J9 Ja Jb Jc Jd Je Jf : Value),i + n = 4 →
   Ok tab R171 (.inLoop L171_0 :: .inBlock 0 :: k) #[ptr q,.int .i64 x,.int .i64 top,v3,K4,K5,K6,K7,v8,.int .i64 i,Ka,Kb,Kc,Kd,Ke,Kf,Kg,Kh,Ki,Kj,Kk,Kl,Km,Kn,Ko,Kp,Kq,Kr,Ks,Kt,Ku,Kv,Kw,Kx,Ky,Kz,J0,J1,J2,J3,J4,J5,J6,J7,J8,J9,Ja,Jb,Jc,Jd,Je,Jf] h R = R (.bool (quietFrom b x (top + i) P.cz n)) h := by
 intro n
 induction n with
 | zero =>
  intro i;intros;rename_i hi
  obtain rfl : i = 4 := by omega
  rw [ok_round,l171_0,L171_0a,L171_0b]
  simp [hk,quietFrom]
 | succ n ih =>
  intro i;intros;rename_i hi
  have hb2 := hr.cb.ok.h2
  have hw1 : IntKind.i64.wrap ((i : Int) + 1) = ((i + 1 : Nat) : Int) := wrapN (n := i + 1) (by omega)
  have hw2 : IntKind.i64.wrap (top + (i : Int)) = top + (i : Int) := wrapI (by omega) (by omega)
  have hlt : (i : Int) < 4 := by omega
  have hi' : b.inb x (top + i) := ⟨hx.1,hx.2,by omega,by show top + (i : Int) < b.h; omega⟩
  have hq := hr.blk
  have ih' := fun K4 K5 K6 K7 Ka Kb Kc Kd Ke Kf Kg Kh Ki Kj Kk Kl Km Kn Ko Kp Kq Kr Ks Kt Ku Kv Kw Kx Ky Kz J0 J1 J2 J3 J4 J5 J6 J7 J8 J9 Ja Jb Jc Jd Je Jf => ih (i + 1) K4 K5 K6 K7 Ka Kb Kc Kd Ke Kf Kg Kh Ki Kj Kk Kl Km Kn Ko Kp Kq Kr Ks Kt Ku Kv Kw Kx Ky Kz J0 J1 J2 J3 J4 J5 J6 J7 J8 J9 Ja Jb Jc Jd Je Jf (by omega)
  have hnp : decide (0 < nbH b x (top + i) + nbV b x (top + i) P.cz + nbD b x (top + i) P.cz) = near b x (top + i) P.cz := rfl
  have hyy : top + ((i + 1 : Nat) : Int) = top + (i : Int) + 1 := by omega
  rw [ok_round,l171_0,L171_0a,L171_0b]
  cases hs : (b.get x (top + i)).s
  ·cases ht : (b.get x (top + i)).t
   ·cases hn : near b x (top + i) P.cz
    ·rw [hn] at hnp
     simp [-Int.natCast_add,k_guard,hw1,hw2,hlt,hq,significant_r hr.cb,touched_r hr.cb,near_r hr hi',hs,ht,hn,hnp,ih',hyy,quietFrom,still]
    ·rw [hn] at hnp
     simp [-Int.natCast_add,k_guard,hw1,hw2,hlt,hq,significant_r hr.cb,touched_r hr.cb,near_r hr hi',hs,ht,hn,hnp,quietFrom,still,fin171]
   ·simp [-Int.natCast_add,k_guard,k_guardU,hw1,hw2,hlt,hq,significant_r hr.cb,touched_r hr.cb,hs,ht,quietFrom,still,fin171]
  ·simp [-Int.natCast_add,k_guard,k_guardU,hw1,hw2,hlt,hq,significant_r hr.cb,hs,quietFrom,still,fin171]
def quietR (b : BS) (x y : Int) (k : Bool) : Bool := decide (y % 4 = 0) && quiet b x y k
theorem quiet_r (hr : QR h f q p c P m sv b) {x y : Int} (hi : b.inb x y) : Ret tab 171 [ptr q,.int .i64 x,.int .i64 y,.int .i64 b.h] h R = R (.bool (quietR b x y P.cz)) h := by
 have hq := hr.frz.blk
 have hlq := blk?_lt hr.blk
 obtain ⟨i1,i2,i3,i4⟩ := hi
 have hb2 := hr.cb.ok.h2
 have hw : IntKind.i64.wrap (y + 4) = y + 4 := wrapI (by omega) (by omega)
 have hm := tmod4 i3
 rw [enter171,B171]
 by_cases hy : y % 4 = 0
 ·by_cases h4 : y + 4 ≤ b.h
  ·have h4' : ¬ (b.h : Int) < y + 4 := by omega
   have := fun K4 K5 K6 K7 Ka Kb Kc Kd Ke Kf Kg Kh Ki Kj Kk Kl Km Kn Ko Kp Kq Kr Ks Kt Ku Kv Kw Kx Ky Kz J0 J1 J2 J3 J4 J5 J6 J7 J8 J9 Ja Jb Jc Jd Je Jf v3 v8 R hk => quiet_loop_r (R := R) (v3 := v3) (v8 := v8) hr.frz ⟨i1,i2⟩ (top := y) ⟨i3,h4⟩ (k := [.code ((RCode.region [⟨some 8,.mov (.const (.bool true)),none⟩] []).seq .ret)]) hk 4 0 K4 K5 K6 K7 Ka Kb Kc Kd Ke Kf Kg Kh Ki Kj Kk Kl Km Kn Ko Kp Kq Kr Ks Kt Ku Kv Kw Kx Ky Kz J0 J1 J2 J3 J4 J5 J6 J7 J8 J9 Ja Jb Jc Jd Je Jf (by omega)
   simp at this
   simp [k_guard,hq,hlq,hw,hm,hy,h4']
   rw [this]
   ·simp [quietR,quiet,h4,hy]
   ·intros
    simp [fin171]
  ·have h4' : (b.h : Int) < y + 4 := by omega
   simp [k_guard,hq,hlq,hw,hm,hy,h4',quietR,quiet,h4,fin171]
 ·have hy' : (y % 4 != 0) = true := by simp [hy]
  simp [k_guard,k_guardU,hq,hlq,hm,hy',quietR,hy,fin171]
end
structure QE (h : Heap) (q p c : Nat) (P : PP) (m : MD) (sv : Value) (σ : ES) : Prop where
 qr : QR h false q p c P m sv σ.b
 own : OwnS h 2 sv σ.out.length (encS σ.out)
 n1 : c ≠ q ∧ c ≠ p ∧ q ≠ p
 n3 : sid sv ≠ some q ∧ sid sv ≠ some p ∧ sid sv ≠ some c
theorem QR.keep {h h' : Heap} {q p c : Nat} {P : PP} {m : MD} {sv : Value} {b : BS} (hr : QR h false q p c P m sv b) (hk : ∀ id,id = q ∨ id = p ∨ id = c → blk? h' id = blk? h id) (hf : below h'.length sv = true) : QR h' false q p c P m sv b :=
 ⟨by rw [hk q (.inl rfl)]; exact hr.blk,⟨by rw [hk p (.inr (.inl rfl))]; exact hr.cb.blkp,by rw [hk c (.inr (.inr rfl))]; exact hr.cb.blkc,hr.cb.ok⟩,hf,hr.pok,hr.rng⟩
section
variable {h : Heap} {q p c : Nat} {P : PP} {m : MD} {sv : Value} {σ : ES}
theorem QE.lts (he : QE h q p c P m sv σ) : q < h.length ∧ p < h.length ∧ c < h.length := ⟨blk?_lt he.qr.blk,blk?_lt he.qr.cb.blkp,blk?_lt he.qr.cb.blkc⟩
theorem QE.good (he : QE h q p c P m sv σ) : σ.b.Good := ⟨he.qr.cb.ok,he.qr.rng⟩
theorem QE.low (he : QE h q p c P m sv σ) {h' : Heap} (hk : ∀ id,id < h.length → blk? h' id = blk? h id) (hl : h.length ≤ h'.length) : QE h' q p c P m sv σ := by
 obtain ⟨l1,l2,l3⟩ := he.lts
 refine ⟨he.qr.keep (fun id hid => hk id ?_) (own_below he.own hl),he.own.of_blk (fun id _ hb => by rw [hk _ (blk?_lt hb)]; exact hb),he.n1,he.n3⟩
 rcases hid with rfl | rfl | rfl <;> assumption
theorem QE.push (he : QE h q p c P m sv σ) (x : Option Blk) : QE (h ++ [x]) q p c P m sv σ := he.low (fun id hid => blk?_push_lt hid) (by simp)
theorem QE.map (he : QE h q p c P m sv σ) {x y : Int} (hi : σ.b.inb x y) {f : Cell → Cell} (hf : keepsV f) :
  QE (h.set c (some ⟨false,encC (σ.b.upd x y f).cs⟩)) q p c P m sv (σ.map x y f) ∧ Stp h (h.set c (some ⟨false,encC (σ.b.upd x y f).cs⟩)) c q sv sv := by
 obtain ⟨m1,m2,m3⟩ := he.n1
 have hg : (σ.b.upd x y f).Good := BS.Good.upd he.good hi hf
 refine ⟨⟨⟨?_,?_,by have := he.qr.sb; simpa using this,he.qr.pok,hg.rng⟩,he.own.of_blk (fun id hid hb => ?_),he.n1,he.n3⟩,⟨by simp,fun id _ hc _ _ => blk?_set_ne (Ne.symm hc),fun _ h => .inl h⟩⟩
 ·rw [blk?_set_ne m1]; exact he.qr.blk
 ·exact he.qr.cb.set rfl rfl hg.ok
 ·rw [blk?_set_ne (fun e => he.n3.2.2 (by rw [e]; exact hid))]; exact hb
theorem put_r (he : QE h q p c P m sv σ) (hn : σ.out.length < 1000000) (ctx : Int) (bit : Nat) :
  ∃ sv' h',(∀ R,Ret tab 169 [ptr q,.int .i64 ctx,.int .i64 bit] h R = R (.tuple #[]) h') ∧ QE h' q p c P m sv' (σ.emit P ctx bit) ∧ Stp h h' c q sv sv' := by
 obtain ⟨l1,l2,l3⟩ := he.lts
 obtain ⟨m1,m2,m3⟩ := he.n1
 obtain ⟨m8,m9,m10⟩ := he.n3
 generalize hcx : (if P.rw = true then (-1 : Int) else ctx) = cx
 have hsl : Sl (h ++ [some ⟨false,[.int .i64 cx,.int .i64 bit]⟩]) 2 (.slice (some ⟨h.length,0,none⟩) 1 2) 1 [.int .i64 cx,.int .i64 bit] :=
  ⟨by simp,.inr ⟨h.length,0,rfl,.inr ⟨_,blk?_push_eq,by simp,by simp⟩⟩⟩
 have hp := he.push (some ⟨false,[.int .i64 cx,.int .i64 bit]⟩)
 obtain ⟨H,ha,hK,hHl,hHs⟩ := own_append (bytes := 16) hp.own hsl (by unfold roomCells; omega) (by omega) (by omega)
 simp only [List.length_append,List.length_singleton] at ha hK hHl hHs
 have hk : ∀ id,id < h.length → sid sv ≠ some id → blk? H id = blk? h id := fun id hid hne => by rw [hHs id (by omega) hne,blk?_push_lt hid]
 have hHq := hk q l1 m8
 rw [he.qr.blk] at hHq
 have hlqH := blk?_lt hHq
 refine ⟨.slice (some ⟨h.length + 1,0,none⟩) (σ.out.length + 1) 2,H.set q (some ⟨false,[ptr p,.int .i64 P.s,.int .i64 P.o,.bool m.byp,.bool m.res,.bool m.rst,.bool P.cz,.bool m.sy,.bool P.rw,.slice (some ⟨h.length + 1,0,none⟩) (σ.out.length + 1) 2]⟩),fun R => ?_,
  ⟨⟨blk?_set_eq hlqH,⟨?_,?_,he.qr.cb.ok⟩,by simp; omega,he.qr.pok,he.qr.rng⟩,?_,he.n1,?_⟩,⟨?_,?_,?_⟩⟩
 ·have hpq := he.qr.blk
  rw [enter169,B169]
  cases hrw : P.rw
  ·simp only [hrw,Bool.false_eq_true,if_false] at hcx
   subst hcx
   rw [hrw] at hpq hHq
   simp [hpq,repL,ha,hHq,fin169]
  ·simp only [hrw,if_true] at hcx
   subst hcx
   rw [hrw] at hpq hHq
   simp [hpq,repL,ha,hHq,fin169]
 ·rw [blk?_set_ne m3,hk _ l2 m9]; exact he.qr.cb.blkp
 ·rw [blk?_set_ne (Ne.symm m1),hk _ l3 m10]; exact he.qr.cb.blkc
 ·refine ⟨by rw [encS_len],.inr ⟨h.length + 1,by simp [ES.emit],?_⟩⟩
  rw [blk?_set_ne (by omega),hK]
  simp [ES.emit,encS_append,encS,hcx]
 ·simp [sid]; omega
 ·simp; omega
 ·intro id hid _ h3 h4
  rw [blk?_set_ne (Ne.symm h3),hk id hid h4]
 ·intro id hid
  simp [sid] at hid
  exact .inr (by simp; omega)
theorem psign_r (he : QE h q p c P m sv σ) (hn : σ.out.length < 1000000) {x y : Int} (hi : σ.b.inb x y) :
  ∃ sv' h',(∀ R,Ret tab 187 [ptr q,.int .i64 x,.int .i64 y] h R = R (.tuple #[]) h') ∧ QE h' q p c P m sv' (σ.sign P x y) ∧ Stp h h' c q sv sv' := by
 obtain ⟨sv1,h1,e1,p1,s1⟩ := put_r he hn (signCtx (sgH σ.b x y) (sgV σ.b x y P.cz)) (signBit P σ.b x y)
 obtain ⟨p2,s2⟩ := p1.map (x := x) (y := y) hi kv_mark
 refine ⟨sv1,_,fun R => ?_,p2,s1.trans s2⟩
 have hq := he.qr.blk
 have hq1 := p1.qr.blk
 have hm := fun R => mark_r (R := R) p1.qr.cb (x := x) (y := y) hi
 have hc := fun R => ctxSign_r (h := h) (R := R) (joint_range (sgn σ.b (x - 1) y) (sgn σ.b (x + 1) y)) (joint_range (sgn σ.b x (y - 1)) (if (!P.cz || y % 4 != 3) = true then sgn σ.b x (y + 1) else 0))
 change ∀ R,Ret tab _ [.int .i64 (sgH σ.b x y),.int .i64 (sgV σ.b x y P.cz)] h R = R (.tuple #[.int .i64 (signCtx (sgH σ.b x y) (sgV σ.b x y P.cz)),.int .i64 (signFlip (sgH σ.b x y) (sgV σ.b x y P.cz))]) h at hc
 have hv := fun R => value_r (R := R) (x := x) (y := y) he.qr.cb
 have hs := fun R => signs_r (R := R) he.qr.cb hi P.cz
 have hx := xor01 (negOf_le (σ.b.get x y).v) (signFlip_le (sgH σ.b x y) (sgV σ.b x y P.cz))
 have hx0 := xor01 (negOf_le (σ.b.get x y).v) (Nat.zero_le 1)
 have hmm : (fun z : Cell => ({ z with s := true } : Cell)) = mark := rfl
 rw [hmm] at hm
 rw [enter187,B187]
 unfold signBit at e1
 simp only [ES.emit_b] at *
 generalize sgH σ.b x y = H at *
 generalize sgV σ.b x y P.cz = V at *
 by_cases hneg : (σ.b.get x y).v < 0
 ·have hno : negOf (σ.b.get x y).v = 1 := by simp [negOf,hneg]
  rw [hno] at hx hx0 e1
  simp only [Int.natCast_one,Int.natCast_zero] at hx hx0
  cases hrw : P.rw
  ·simp only [hrw,Bool.false_eq_true,if_false] at e1
   rw [hrw] at hq
   simp [-Int.natCast_emod,-Int.natCast_add] at e1
   simp [-Int.natCast_emod,-Int.natCast_add,hq,hq1,hv,hneg,hs,hc,hx,e1,hm,fin187]
  ·simp only [hrw,if_true] at e1
   rw [hrw] at hq
   simp [-Int.natCast_emod,-Int.natCast_add] at e1
   simp [-Int.natCast_emod,-Int.natCast_add,hq,hq1,hv,hneg,hs,hc,hx0,e1,hm,fin187]
 ·have hno : negOf (σ.b.get x y).v = 0 := by simp [negOf,hneg]
  rw [hno] at hx hx0 e1
  simp only [Int.natCast_one,Int.natCast_zero] at hx hx0
  cases hrw : P.rw
  ·simp only [hrw,Bool.false_eq_true,if_false] at e1
   rw [hrw] at hq
   simp [-Int.natCast_emod,-Int.natCast_add] at e1
   simp [-Int.natCast_emod,-Int.natCast_add,hq,hq1,hv,hneg,hs,hc,hx,e1,hm,fin187]
  ·simp only [hrw,if_true] at e1
   rw [hrw] at hq
   simp [-Int.natCast_emod,-Int.natCast_add] at e1
   simp [-Int.natCast_emod,-Int.natCast_add,hq,hq1,hv,hneg,hs,hc,hx0,e1,hm,fin187]
theorem code_r (he : QE h q p c P m sv σ) (hn : σ.out.length + 2 < 1000000) {x y : Int} (hi : σ.b.inb x y) :
  ∃ sv' h',(∀ R,Ret tab 168 [ptr q,.int .i64 x,.int .i64 y] h R = R (.tuple #[]) h') ∧ QE h' q p c P m sv' (σ.code P x y) ∧ Stp h h' c q sv sv' := by
 obtain ⟨sv1,h1,e1,p1,s1⟩ := put_r he (by omega) (ctxOf P σ.b x y) (bitOf (σ.b.get x y).v P.s)
 have hq := he.qr.blk
 have hq1 := p1.qr.blk
 obtain ⟨n1,n2,n3⟩ := nb_le σ.b x y P.cz
 have hnb := fun R => neighbors_r (R := R) he.qr.cb hi P.cz
 have hbit := fun R => bit_r (R := R) (x := x) (y := y) he.qr
 have hsg := fun R => significance_r (h := h) (R := R) he.qr.pok.o1 n1 n2 n3
 change ∀ R,Ret tab _ _ h R = R (.int .i64 (ctxOf P σ.b x y)) h at hsg
 unfold ES.code
 by_cases hb : bitOf (σ.b.get x y).v P.s = 1
 ·obtain ⟨sv2,h2,e2,p2,s2⟩ := psign_r p1 (by simp [ES.emit]; omega) hi
  rw [if_pos hb]
  refine ⟨sv2,h2,fun R => ?_,p2,s1.trans s2⟩
  rw [hb] at hbit e1
  rw [enter168,B168]
  simp at hbit e1
  simp [hq,hq1,hnb,hbit,hsg,e1,e2,fin168]
 ·have hb0 : bitOf (σ.b.get x y).v P.s = 0 := by unfold bitOf at *; omega
  rw [if_neg hb]
  refine ⟨sv1,h1,fun R => ?_,p1,s1⟩
  rw [hb0] at hbit e1
  rw [enter168,B168]
  simp at hbit e1
  simp [hq,hq1,hnb,hbit,hsg,e1,fin168]
end
section
variable {h : Heap} {q p c : Nat} {P : PP} {m : MD} {sv : Value} {σ : ES} {k : List RItem} {R : Value → Heap → Prop}
theorem sig_loop_r {s v1 : Value} {pts : List (Int × Int)} :
  ∀ (n i : Nat) (h : Heap) (sv : Value) (σ : ES) (K2 K3 K4 K5 K9 Ka Kb Kc Kd Ke Kf Kg Kh Ki Kj Kk Kl Km Kn Ko Kp Kq Kr Ks Kt Ku Kv Kw Kx Ky Kz J0 J1 J2 J3 J4 J5 J6 J7 J8 J9 Ja : Value),n = pts.length - i → i ≤ pts.length → QE h q p c P m sv σ → Far h s pts c q sv → AllIn σ.b pts → σ.out.length + 2 * n + 3 < 1000000 → pts.length < 1000000 →
   (∀ (h' : Heap) (sv' : Value) (K1 K2 K3 K4 K5 K6 K7 K8 K9 Ka Kb Kc Kd Ke Kf Kg Kh Ki Kj Kk Kl Km Kn Ko Kp Kq Kr Ks Kt Ku Kv Kw Kx Ky Kz J0 J1 J2 J3 J4 J5 J6 J7 J8 J9 Ja : Value),QE h' q p c P m sv' (σ.sigs P (pts.drop i)) → Stp h h' c q sv sv' → Ok tab R128 k #[ptr q,K1,K2,K3,K4,K5,K6,K7,K8,K9,Ka,Kb,Kc,Kd,Ke,Kf,Kg,Kh,Ki,Kj,Kk,Kl,Km,Kn,Ko,Kp,Kq,Kr,Ks,Kt,Ku,Kv,Kw,Kx,Ky,Kz,J0,J1,J2,J3,J4,J5,J6,J7,J8,J9,Ja] h' R) →
   Ok tab R128 (.inLoop L128_0 :: .inBlock 0 :: k) #[ptr q,v1,K2,K3,K4,K5,s,.int .i64 pts.length,.int .i64 i,K9,Ka,Kb,Kc,Kd,Ke,Kf,Kg,Kh,Ki,Kj,Kk,Kl,Km,Kn,Ko,Kp,Kq,Kr,Ks,Kt,Ku,Kv,Kw,Kx,Ky,Kz,J0,J1,J2,J3,J4,J5,J6,J7,J8,J9,Ja] h R := by
 intro n
 induction n with
 | zero =>
  intro i h sv σ;intros;rename_i hm hi he hf ha hl hpl hk
  have hlt : ¬ ((i : Int) < pts.length) := by omega
  rw [ok_round,l128_0,L128_0a,L128_0b]
  simp [hlt]
  refine hk h sv _ _ _ _ _ _ _ _ _ _ _ _ _ _ _ _ _ _ _ _ _ _ _ _ _ _ _ _ _ _ _ _ _ _ _ _ _ _ _ _ _ _ _ _ _ _ ?_ (Stp.refl _ _ _ _)
  rw [List.drop_of_length_le (by omega)]; exact he
 | succ n ih =>
  intro i h sv σ;intros;rename_i hm hi he hf ha hl hpl hk
  have hlt : ((i : Int) < pts.length) := by omega
  have hw : IntKind.i64.wrap ((i : Int) + 1) = (i : Int) + 1 := wrapN (n := i + 1) (by omega)
  have hil : i < pts.length := by omega
  obtain ⟨id,off,blk,hs,hb,ht,hle⟩ := hf.get hil
  have hin := ha _ (List.getElem_mem hil)
  have hsp : ∀ τ : ES,τ = σ.sig1 P pts[i].1 pts[i].2 → σ.sigs P (pts.drop i) = τ.sigs P (pts.drop (i + 1)) := by
   intro τ hτ
   rw [List.drop_eq_getElem_cons hil,hτ]; rfl
  have hle1 := le_sig1 (P := P) he.good hin
  generalize hx : pts[i].1 = x at *
  generalize hy : pts[i].2 = y at *
  have he2 := he.push (some ⟨false,[.int .i64 x,.int .i64 y]⟩)
  have hs2 := Stp.push h (some ⟨false,[.int .i64 x,.int .i64 y]⟩) c q sv
  have hf2 := hf.stp hs2
  have hK : ∀ y : Blk,blk? (h ++ [some y]) h.length = some y := fun y => blk?_push_eq
  obtain ⟨l1,l2,l3⟩ := he.lts
  have hq2 := he2.qr.blk
  have hcb2 := he2.qr.cb
  have hsig := fun R => significant_r (R := R) (x := x) (y := y) hcb2
  have hnb := fun R => near_r (R := R) (x := x) (y := y) he2.qr hin
  have hnp : decide (0 < nbH σ.b x y + nbV σ.b x y P.cz + nbD σ.b x y P.cz) = near σ.b x y P.cz := rfl
  rw [ok_round,l128_0,L128_0a,L128_0b]
  cases hsg : (σ.b.get x y).s
  ·cases hnr : near σ.b x y P.cz
   ·have h1 : σ.sig1 P x y = σ := by unfold ES.sig1; rw [if_neg (by simp [hnr])]
    rw [hsg] at hsig; rw [hnr] at hnp
    simp [-Int.natCast_add,-List.cons_append,-List.append_assoc,k_guard,hlt,hw,hs,hb,ht,hle,hK,hq2,hsig,hnb,hnp]
    rw [← hs]
    refine ih (i + 1) _ sv σ _ _ _ _ _ _ _ _ _ _ _ _ _ _ _ _ _ _ _ _ _ _ _ _ _ _ _ _ _ _ _ _ _ _ _ _ _ _ _ _ _ _ (by omega) (by omega) he2 hf2 ha (by omega) hpl ?_
    intro h' sv';intros;rename_i pe st
    exact hk h' sv' _ _ _ _ _ _ _ _ _ _ _ _ _ _ _ _ _ _ _ _ _ _ _ _ _ _ _ _ _ _ _ _ _ _ _ _ _ _ _ _ _ _ _ _ _ _ (by rw [hsp σ h1.symm]; exact pe) (hs2.trans st)
   ·obtain ⟨sv3,h3,e3,p3,s3⟩ := code_r he2 (by omega) hin
    have hc1 := le_code (P := P) he.good hin
    have hq3 := p3.qr.blk
    have hv3 : blk? h3 h.length = some ⟨false,[.int .i64 x,.int .i64 y]⟩ := by
     rw [s3.same h.length (by simp) (by omega) (by omega) (fun e => by have := he.own.lt e; omega)]; exact blk?_push_eq
    have htc := fun R => touch_r (R := R) (v := true) p3.qr.cb (x := x) (y := y) (hc1.inb hin)
    obtain ⟨p4,s4⟩ := p3.map (x := x) (y := y) (hc1.inb hin) (kv_touch true)
    have h1 : σ.sig1 P x y = (σ.code P x y).map x y (touch true) := by unfold ES.sig1; rw [if_pos ⟨hsg,hnr⟩]
    have hmm : (fun z : Cell => ({ z with t := true } : Cell)) = touch true := rfl
    rw [hmm] at htc
    have hle1' := hle1.len
    rw [h1] at hle1'
    rw [hsg] at hsig; rw [hnr] at hnp
    simp [-Int.natCast_add,-List.cons_append,-List.append_assoc,k_guard,hlt,hw,hs,hb,ht,hle,hK,hq2,hsig,hnb,hnp,e3,hq3,hv3,htc]
    rw [← hs]
    have st4 := (hs2.trans s3).trans s4
    refine ih (i + 1) _ sv3 _ _ _ _ _ _ _ _ _ _ _ _ _ _ _ _ _ _ _ _ _ _ _ _ _ _ _ _ _ _ _ _ _ _ _ _ _ _ _ _ _ _ _ (by omega) (by omega) p4 (hf.stp st4) (by rw [← h1]; exact ha.le hle1) (by omega) hpl ?_
    intro h' sv';intros;rename_i pe st
    exact hk h' sv' _ _ _ _ _ _ _ _ _ _ _ _ _ _ _ _ _ _ _ _ _ _ _ _ _ _ _ _ _ _ _ _ _ _ _ _ _ _ _ _ _ _ _ _ _ _ (by rw [hsp _ h1.symm]; exact pe) (st4.trans st)
  ·have h1 : σ.sig1 P x y = σ := by unfold ES.sig1; rw [if_neg (by simp [hsg])]
   rw [hsg] at hsig
   simp [-List.cons_append,-List.append_assoc,k_guard,hlt,hw,hs,hb,ht,hle,hK,hq2,hsig]
   rw [← hs]
   refine ih (i + 1) _ sv σ _ _ _ _ _ _ _ _ _ _ _ _ _ _ _ _ _ _ _ _ _ _ _ _ _ _ _ _ _ _ _ _ _ _ _ _ _ _ _ _ _ _ (by omega) (by omega) he2 hf2 ha (by omega) hpl ?_
   intro h' sv';intros;rename_i pe st
   exact hk h' sv' _ _ _ _ _ _ _ _ _ _ _ _ _ _ _ _ _ _ _ _ _ _ _ _ _ _ _ _ _ _ _ _ _ _ _ _ _ _ _ _ _ _ _ _ _ _ (by rw [hsp σ h1.symm]; exact pe) (hs2.trans st)
theorem significance_pr (he : QE h q p c P m sv σ) (hl : σ.out.length ≤ 1000) {s : Value} (hf : Far h s (scan σ.b.w σ.b.h) c q sv) :
  ∃ sv' h',(∀ R,Ret tab 128 [ptr q,s] h R = R (.tuple #[]) h') ∧ QE h' q p c P m sv' (σ.sigs P (scan σ.b.w σ.b.h)) ∧ Stp h h' c q sv sv' := by
 have key : Ret tab 128 [ptr q,s] h fun v h' => v = .tuple #[] ∧ ∃ sv',QE h' q p c P m sv' (σ.sigs P (scan σ.b.w σ.b.h)) ∧ Stp h h' c q sv sv' := by
  obtain ⟨a,cc,hs⟩ := hf.sl.shape
  have hsl := scan_len he.qr.cb.ok.w2 he.qr.cb.ok.h2
  rw [enter128,B128]
  simp [hs]
  rw [← hs]
  refine sig_loop_r _ 0 h sv σ _ _ _ _ _ _ _ _ _ _ _ _ _ _ _ _ _ _ _ _ _ _ _ _ _ _ _ _ _ _ _ _ _ _ _ _ _ _ _ _ _ _ rfl (by omega) he hf (scanIn σ.b) (by omega) (by omega) ?_
  intro h' sv';intros;rename_i pe st
  simp [fin128]
  exact ⟨sv',by simpa using pe,st⟩
 obtain ⟨v,h',e,rfl,sv',pe,st⟩ := ret_ex key
 exact ⟨sv',h',e,pe,st⟩
theorem ref_loop_r {s v1 : Value} {pts : List (Int × Int)} :
  ∀ (n i : Nat) (h : Heap) (sv : Value) (σ : ES) (K2 K3 K4 K5 K9 Ka Kb Kc Kd Ke Kf Kg Kh Ki Kj Kk Kl Km Kn Ko Kp Kq Kr Ks Kt Ku Kv Kw Kx Ky Kz J0 J1 J2 J3 J4 J5 J6 J7 J8 J9 Ja Jb Jc Jd Je Jf Jg Jh Ji Jj Jk Jl Jm Jn Jo Jp Jq Jr Js Jt Ju Jv Jw Jx Jy Jz Y0 Y1 Y2 Y3 Y4 Y5 : Value),n = pts.length - i → i ≤ pts.length → QE h q p c P m sv σ → Far h s pts c q sv → AllIn σ.b pts → σ.out.length + 2 * n + 3 < 1000000 → pts.length < 1000000 →
   (∀ (h' : Heap) (sv' : Value) (K1 K2 K3 K4 K5 K6 K7 K8 K9 Ka Kb Kc Kd Ke Kf Kg Kh Ki Kj Kk Kl Km Kn Ko Kp Kq Kr Ks Kt Ku Kv Kw Kx Ky Kz J0 J1 J2 J3 J4 J5 J6 J7 J8 J9 Ja Jb Jc Jd Je Jf Jg Jh Ji Jj Jk Jl Jm Jn Jo Jp Jq Jr Js Jt Ju Jv Jw Jx Jy Jz Y0 Y1 Y2 Y3 Y4 Y5 : Value),QE h' q p c P m sv' (σ.refs P (pts.drop i)) → Stp h h' c q sv sv' → Ok tab R129 k #[ptr q,K1,K2,K3,K4,K5,K6,K7,K8,K9,Ka,Kb,Kc,Kd,Ke,Kf,Kg,Kh,Ki,Kj,Kk,Kl,Km,Kn,Ko,Kp,Kq,Kr,Ks,Kt,Ku,Kv,Kw,Kx,Ky,Kz,J0,J1,J2,J3,J4,J5,J6,J7,J8,J9,Ja,Jb,Jc,Jd,Je,Jf,Jg,Jh,Ji,Jj,Jk,Jl,Jm,Jn,Jo,Jp,Jq,Jr,Js,Jt,Ju,Jv,Jw,Jx,Jy,Jz,Y0,Y1,Y2,Y3,Y4,Y5] h' R) →
   Ok tab R129 (.inLoop L129_0 :: .inBlock 0 :: k) #[ptr q,v1,K2,K3,K4,K5,s,.int .i64 pts.length,.int .i64 i,K9,Ka,Kb,Kc,Kd,Ke,Kf,Kg,Kh,Ki,Kj,Kk,Kl,Km,Kn,Ko,Kp,Kq,Kr,Ks,Kt,Ku,Kv,Kw,Kx,Ky,Kz,J0,J1,J2,J3,J4,J5,J6,J7,J8,J9,Ja,Jb,Jc,Jd,Je,Jf,Jg,Jh,Ji,Jj,Jk,Jl,Jm,Jn,Jo,Jp,Jq,Jr,Js,Jt,Ju,Jv,Jw,Jx,Jy,Jz,Y0,Y1,Y2,Y3,Y4,Y5] h R := by
 intro n
 induction n with
 | zero =>
  intro i h sv σ;intros;rename_i hm hi he hf ha hl hpl hk
  have hlt : ¬ ((i : Int) < pts.length) := by omega
  rw [ok_round,l129_0,L129_0a,L129_0b]
  simp [hlt]
  refine hk h sv _ _ _ _ _ _ _ _ _ _ _ _ _ _ _ _ _ _ _ _ _ _ _ _ _ _ _ _ _ _ _ _ _ _ _ _ _ _ _ _ _ _ _ _ _ _ _ _ _ _ _ _ _ _ _ _ _ _ _ _ _ _ _ _ _ _ _ _ _ _ _ _ _ _ _ _ _ ?_ (Stp.refl _ _ _ _)
  rw [List.drop_of_length_le (by omega)]; exact he
 | succ n ih =>
  intro i h sv σ;intros;rename_i hm hi he hf ha hl hpl hk
  have hlt : ((i : Int) < pts.length) := by omega
  have hw : IntKind.i64.wrap ((i : Int) + 1) = (i : Int) + 1 := wrapN (n := i + 1) (by omega)
  have hil : i < pts.length := by omega
  obtain ⟨id,off,blk,hs,hb,ht,hle⟩ := hf.get hil
  have hin := ha _ (List.getElem_mem hil)
  have hsp : ∀ τ : ES,τ = σ.ref1 P pts[i].1 pts[i].2 → σ.refs P (pts.drop i) = τ.refs P (pts.drop (i + 1)) := by
   intro τ hτ
   rw [List.drop_eq_getElem_cons hil,hτ]; rfl
  have hle1 := le_ref1 (P := P) he.good hin
  generalize hx : pts[i].1 = x at *
  generalize hy : pts[i].2 = y at *
  have he2 := he.push (some ⟨false,[.int .i64 x,.int .i64 y]⟩)
  have hs2 := Stp.push h (some ⟨false,[.int .i64 x,.int .i64 y]⟩) c q sv
  have hf2 := hf.stp hs2
  have hK : ∀ y : Blk,blk? (h ++ [some y]) h.length = some y := fun y => blk?_push_eq
  obtain ⟨l1,l2,l3⟩ := he.lts
  have hq2 := he2.qr.blk
  have hcb2 := he2.qr.cb
  have hsig := fun R => significant_r (R := R) (x := x) (y := y) hcb2
  have htch := fun R => touched_r (R := R) (x := x) (y := y) hcb2
  have hrfd := fun R => refined_r (R := R) (x := x) (y := y) hcb2
  have hnb := fun R => near_r (R := R) (x := x) (y := y) he2.qr hin
  have hnp : decide (0 < nbH σ.b x y + nbV σ.b x y P.cz + nbD σ.b x y P.cz) = near σ.b x y P.cz := rfl
  have hbit := fun R => bit_r (R := R) (x := x) (y := y) he2.qr
  have hcx := fun a b R => ctxRefine_r (h := h ++ [some (⟨false,[.int .i64 x,.int .i64 y]⟩ : Blk)]) (R := R) (a := a) (b := b)
  have hskip : σ.ref1 P x y = σ → ∀ K2 K3 K4 K5 K9 Ka Kb Kc Kd Ke Kf Kg Kh Ki Kj Kk Kl Km Kn Ko Kp Kq Kr Ks Kt Ku Kv Kw Kx Ky Kz J0 J1 J2 J3 J4 J5 J6 J7 J8 J9 Ja Jb Jc Jd Je Jf Jg Jh Ji Jj Jk Jl Jm Jn Jo Jp Jq Jr Js Jt Ju Jv Jw Jx Jy Jz Y0 Y1 Y2 Y3 Y4 Y5 : Value,Ok tab R129 (.inLoop L129_0 :: .inBlock 0 :: k) #[ptr q,v1,K2,K3,K4,K5,s,.int .i64 pts.length,.int .i64 ((i : Int) + 1),K9,Ka,Kb,Kc,Kd,Ke,Kf,Kg,Kh,Ki,Kj,Kk,Kl,Km,Kn,Ko,Kp,Kq,Kr,Ks,Kt,Ku,Kv,Kw,Kx,Ky,Kz,J0,J1,J2,J3,J4,J5,J6,J7,J8,J9,Ja,Jb,Jc,Jd,Je,Jf,Jg,Jh,Ji,Jj,Jk,Jl,Jm,Jn,Jo,Jp,Jq,Jr,Js,Jt,Ju,Jv,Jw,Jx,Jy,Jz,Y0,Y1,Y2,Y3,Y4,Y5] (h ++ [some ⟨false,[.int .i64 x,.int .i64 y]⟩]) R := by
   intro h1;intros
   refine ih (i + 1) _ sv σ _ _ _ _ _ _ _ _ _ _ _ _ _ _ _ _ _ _ _ _ _ _ _ _ _ _ _ _ _ _ _ _ _ _ _ _ _ _ _ _ _ _ _ _ _ _ _ _ _ _ _ _ _ _ _ _ _ _ _ _ _ _ _ _ _ _ _ _ _ _ _ _ _ (by omega) (by omega) he2 hf2 ha (by omega) hpl ?_
   intro h' sv';intros;rename_i pe st
   exact hk h' sv' _ _ _ _ _ _ _ _ _ _ _ _ _ _ _ _ _ _ _ _ _ _ _ _ _ _ _ _ _ _ _ _ _ _ _ _ _ _ _ _ _ _ _ _ _ _ _ _ _ _ _ _ _ _ _ _ _ _ _ _ _ _ _ _ _ _ _ _ _ _ _ _ _ _ _ _ _ (by rw [hsp σ h1.symm]; exact pe) (hs2.trans st)
  rw [ok_round,l129_0,L129_0a,L129_0b]
  cases hsg : (σ.b.get x y).s
  ·have h1 : σ.ref1 P x y = σ := by unfold ES.ref1; rw [if_pos (.inl hsg)]
   rw [hsg] at hsig
   simp [-Int.natCast_add,-List.cons_append,-List.append_assoc,k_guard,k_guardU,hlt,hw,hs,hb,ht,hle,hK,hq2,hsig]
   rw [← hs]
   exact hskip h1 ..
  ·cases htc0 : (σ.b.get x y).t
   ·-- refined
    obtain ⟨sv3,h3,e3,p3,s3⟩ := put_r he2 (by omega) (refCtx (!(σ.b.get x y).r) (near σ.b x y P.cz)) (bitOf (σ.b.get x y).v P.s)
    have hc1 := le_emit (P := P) he.good (refCtx (!(σ.b.get x y).r) (near σ.b x y P.cz)) (bitOf (σ.b.get x y).v P.s)
    have hq3 := p3.qr.blk
    have hv3 : blk? h3 h.length = some ⟨false,[.int .i64 x,.int .i64 y]⟩ := by
     rw [s3.same h.length (by simp) (by omega) (by omega) (fun e => by have := he.own.lt e; omega)]; exact blk?_push_eq
    have hrf := fun R => refine_r (R := R) p3.qr.cb (x := x) (y := y) (hc1.inb hin)
    obtain ⟨p4,s4⟩ := p3.map (x := x) (y := y) (hc1.inb hin) kv_refine
    have hc2 := hc1.trans (le_map hc1.good (hc1.inb hin) kv_refine)
    have hq4 := p4.qr.blk
    have hv4 : blk? (h3.set c (some ⟨false,encC ((σ.emit P (refCtx (!(σ.b.get x y).r) (near σ.b x y P.cz)) (bitOf (σ.b.get x y).v P.s)).b.upd x y refine').cs⟩)) h.length = some ⟨false,[.int .i64 x,.int .i64 y]⟩ := by
     rw [blk?_set_ne (by omega)]; exact hv3
    have htc := fun R => touch_r (R := R) (v := true) p4.qr.cb (x := x) (y := y) (hc2.inb hin)
    obtain ⟨p5,s5⟩ := p4.map (x := x) (y := y) (hc2.inb hin) (kv_touch true)
    have h1 : σ.ref1 P x y = ((σ.emit P (refCtx (!(σ.b.get x y).r) (near σ.b x y P.cz)) (bitOf (σ.b.get x y).v P.s)).map x y refine').map x y (touch true) := by unfold ES.ref1; rw [if_neg (by simp [hsg,htc0])]
    have hmm : (fun z : Cell => ({ z with t := true } : Cell)) = touch true := rfl
    have hmr : (fun z : Cell => ({ z with r := true } : Cell)) = refine' := rfl
    rw [hmm] at htc
    rw [hmr] at hrf
    have hle1' := hle1.len
    rw [h1] at hle1'
    rw [hsg] at hsig; rw [htc0] at htch
    have st5 := ((hs2.trans s3).trans s4).trans s5
    rw [List.set_set] at p5 st5
    simp only [ES.map_b,ES.emit_b] at hrf htc hv4 hq3 hq4
    simp [-Int.natCast_add,-List.cons_append,-List.append_assoc,k_guard,hlt,hw,hs,hb,ht,hle,hK,hq2,hsig,htch,hrfd,hnb,hnp,hbit,hcx,e3,hq3,hv3,hrf,hq4,hv4,htc,book,logOf,addLog,chk1,lookL,reload]
    rw [← hs]
    refine ih (i + 1) _ sv3 _ _ _ _ _ _ _ _ _ _ _ _ _ _ _ _ _ _ _ _ _ _ _ _ _ _ _ _ _ _ _ _ _ _ _ _ _ _ _ _ _ _ _ _ _ _ _ _ _ _ _ _ _ _ _ _ _ _ _ _ _ _ _ _ _ _ _ _ _ _ _ _ _ _ (by omega) (by omega) p5 (hf.stp st5) (by rw [← h1]; exact ha.le hle1) (by omega) hpl ?_
    intro h' sv';intros;rename_i pe st
    exact hk h' sv' _ _ _ _ _ _ _ _ _ _ _ _ _ _ _ _ _ _ _ _ _ _ _ _ _ _ _ _ _ _ _ _ _ _ _ _ _ _ _ _ _ _ _ _ _ _ _ _ _ _ _ _ _ _ _ _ _ _ _ _ _ _ _ _ _ _ _ _ _ _ _ _ _ _ _ _ _ (by rw [hsp _ h1.symm]; exact pe) (st5.trans st)
   ·have h1 : σ.ref1 P x y = σ := by unfold ES.ref1; rw [if_pos (.inr htc0)]
    rw [hsg] at hsig; rw [htc0] at htch
    simp [-Int.natCast_add,-List.cons_append,-List.append_assoc,k_guard,hlt,hw,hs,hb,ht,hle,hK,hq2,hsig,htch]
    rw [← hs]
    exact hskip h1 ..
theorem refinement_pr (he : QE h q p c P m sv σ) (hl : σ.out.length ≤ 1000) {s : Value} (hf : Far h s (scan σ.b.w σ.b.h) c q sv) :
  ∃ sv' h',(∀ R,Ret tab 129 [ptr q,s] h R = R (.tuple #[]) h') ∧ QE h' q p c P m sv' (σ.refs P (scan σ.b.w σ.b.h)) ∧ Stp h h' c q sv sv' := by
 have key : Ret tab 129 [ptr q,s] h fun v h' => v = .tuple #[] ∧ ∃ sv',QE h' q p c P m sv' (σ.refs P (scan σ.b.w σ.b.h)) ∧ Stp h h' c q sv sv' := by
  obtain ⟨a,cc,hs⟩ := hf.sl.shape
  have hsl := scan_len he.qr.cb.ok.w2 he.qr.cb.ok.h2
  rw [enter129,B129]
  simp [hs]
  rw [← hs]
  refine ref_loop_r _ 0 h sv σ _ _ _ _ _ _ _ _ _ _ _ _ _ _ _ _ _ _ _ _ _ _ _ _ _ _ _ _ _ _ _ _ _ _ _ _ _ _ _ _ _ _ _ _ _ _ _ _ _ _ _ _ _ _ _ _ _ _ _ _ _ _ _ _ _ _ _ _ _ _ _ _ _ rfl (by omega) he hf (scanIn σ.b) (by omega) (by omega) ?_
  intro h' sv';intros;rename_i pe st
  simp [fin129]
  exact ⟨sv',by simpa using pe,st⟩
 obtain ⟨v,h',e,rfl,sv',pe,st⟩ := ret_ex key
 exact ⟨sv',h',e,pe,st⟩
end
def cstep (P : PP) (τ : ES × Nat) (p : Int × Int) : ES × Nat :=
 match τ.2 with
 | s + 1 => (τ.1,s)
 | 0 => if quietR τ.1.b p.1 p.2 P.cz = true then ((τ.1.run P p.1 p.2).1,((τ.1.run P p.1 p.2).2 - p.2 - 1).toNat) else (τ.1.cln1 P p.1 p.2,0)
def csteps (P : PP) (τ : ES × Nat) (l : List (Int × Int)) : ES × Nat := l.foldl (cstep P) τ
theorem csteps_append (P : PP) (τ : ES × Nat) (a b : List (Int × Int)) : csteps P τ (a ++ b) = csteps P (csteps P τ a) b := List.foldl_append
theorem csteps_skip (P : PP) (σ : ES) (x : Int) (n : Nat) : ∀ (k : Nat) (y : Int),csteps P (σ,k) (colPts x y (k + n)) = csteps P (σ,0) (colPts x (y + k) n)
 | 0,y => by simp
 | k + 1,y => by
  rw [show k + 1 + n = (k + n) + 1 by omega,colPts]
  show csteps P (cstep P (σ,k + 1) (x,y)) (colPts x (y + 1) (k + n)) = _
  rw [show cstep P (σ,k + 1) (x,y) = (σ,k) from rfl,csteps_skip P σ x n k (y + 1)]
  congr 2; omega
theorem csteps_rows (P : PP) (x : Int) : ∀ (n : Nat) (y : Int) (σ : ES),(∀ j : Nat,j < n → (y + j) % 4 ≠ 0) → csteps P (σ,0) (colPts x y n) = (σ.rows P x y n,0)
 | 0,y,σ,_ => rfl
 | n + 1,y,σ,h => by
  rw [colPts]
  show csteps P (cstep P (σ,0) (x,y)) (colPts x (y + 1) n) = _
  have h0 : y % 4 ≠ 0 := by have := h 0 (by omega); simpa using this
  have hq : quietR σ.b x y P.cz = false := by simp [quietR,h0]
  have : cstep P (σ,0) (x,y) = (σ.cln1 P x y,0) := by simp [cstep,hq]
  rw [this,csteps_rows P x n (y + 1) _ (fun j hj => by have := h (j + 1) (by omega); rw [show y + 1 + (j : Int) = y + ((j + 1 : Nat) : Int) by omega]; exact this)]
  rfl
theorem csteps_col {P : PP} {σ : ES} (hg : σ.b.Good) {x top : Int} (hi : σ.b.inb x top) (h4 : top % 4 = 0) :
  csteps P (σ,0) (colPts x top (min (top + 4) (σ.b.h : Int) - top).toNat) = (σ.col P x top,0) := by
 have hi0 := hi
 obtain ⟨i1,i2,i3,i4⟩ := hi
 cases hq : quiet σ.b x top P.cz
 ·have hcol : σ.col P x top = σ.rows P x top (min (top + 4) σ.b.h - top).toNat := by unfold ES.col; rw [if_neg (by simp [hq])]
  rw [hcol]
  obtain ⟨n,hn⟩ : ∃ n,(min (top + 4) (σ.b.h : Int) - top).toNat = n + 1 := ⟨(min (top + 4) (σ.b.h : Int) - top).toNat - 1,by omega⟩
  rw [hn,colPts]
  show csteps P (cstep P (σ,0) (x,top)) (colPts x (top + 1) n) = _
  have : cstep P (σ,0) (x,top) = (σ.cln1 P x top,0) := by simp [cstep,quietR,hq]
  rw [this,csteps_rows P x n (top + 1) _ (fun j hj => by omega)]
  rfl
 ·have htop : top + 4 ≤ σ.b.h := by
   simp only [quiet,Bool.and_eq_true,decide_eq_true_eq] at hq; exact hq.1
  have hcol : σ.col P x top = ((σ.run P x top).1).rows P x (σ.run P x top).2 (min (top + 4) σ.b.h - (σ.run P x top).2).toNat := by unfold ES.col; rw [if_pos hq]
  rw [hcol]
  obtain ⟨_,b2,b3⟩ := le_run (P := P) hg hi0 htop
  rw [show (min (top + 4) (σ.b.h : Int) - top).toNat = 3 + 1 by omega,colPts]
  show csteps P (cstep P (σ,0) (x,top)) (colPts x (top + 1) 3) = _
  have : cstep P (σ,0) (x,top) = ((σ.run P x top).1,((σ.run P x top).2 - top - 1).toNat) := by simp [cstep,quietR,hq,h4]
  rw [this]
  generalize (σ.run P x top).1 = τ
  generalize (σ.run P x top).2 = y at *
  have e3 : 3 = (y - top - 1).toNat + (top + 4 - y).toNat := by omega
  have := csteps_skip P τ x (top + 4 - y).toNat (y - top - 1).toNat (top + 1)
  rw [← e3] at this
  rw [this,show top + 1 + ((y - top - 1).toNat : Int) = y by omega,show (min (top + 4) (σ.b.h : Int) - y).toNat = (top + 4 - y).toNat by omega]
  exact csteps_rows P x _ y τ (fun j hj => by omega)
theorem csteps_cols {P : PP} {w h : Nat} : ∀ (n : Nat) (σ : ES) (x top : Int),σ.b.Good → σ.b.w = w → σ.b.h = h → 0 ≤ x → x + n ≤ w → 0 ≤ top → top < h → top % 4 = 0 → csteps P (σ,0) (stripePts h x top n) = (σ.cols P x top n,0)
 | 0,σ,x,top,_,_,_,_,_,_,_,_ => rfl
 | n + 1,σ,x,top,hg,hw,hh,h1,h2,h3,h4,h5 => by
  have hi : σ.b.inb x top := ⟨h1,by omega,h3,by omega⟩
  have hc := csteps_col (P := P) hg hi h5
  have hl := le_col (P := P) hg hi
  rw [stripePts,csteps_append,← hh,hc,hh]
  exact csteps_cols n _ (x + 1) top hl.good (hl.w.trans hw) (hl.h.trans hh) (by omega) (by omega) h3 h4 h5
theorem csteps_scan {P : PP} {w h : Nat} : ∀ (n : Nat) (σ : ES) (top : Int),σ.b.Good → σ.b.w = w → σ.b.h = h → 0 ≤ top → top + 4 * n ≤ h + 3 → top % 4 = 0 → csteps P (σ,0) (scanPts w h top n) = (σ.stripes P top n,0)
 | 0,σ,top,_,_,_,_,_,_ => rfl
 | n + 1,σ,top,hg,hw,hh,h1,h2,h3 => by
  have hc := csteps_cols (P := P) (w := w) (h := h) w σ 0 top hg hw hh (by omega) (by omega) h1 (by omega) h3
  have hl := le_cols (P := P) (n := σ.b.w) hg (x := 0) (top := top) (by omega) (by omega) h1 (by omega)
  rw [scanPts,csteps_append,hc,ES.stripes,hw]
  rw [hw] at hl
  exact csteps_scan n _ (top + 4) hl.good (hl.w.trans hw) (hl.h.trans hh) (by omega) (by omega) (by omega)
theorem csteps_all {P : PP} {σ : ES} (hg : σ.b.Good) : csteps P (σ,0) (scan σ.b.w σ.b.h) = (σ.stripes P 0 (stripesOf σ.b.h),0) :=
 csteps_scan _ σ 0 hg rfl rfl (by omega) (by unfold stripesOf; omega) (by omega)
theorem quietR_top {b : BS} {x y : Int} {k : Bool} (h : quietR b x y k = true) : y + 4 ≤ b.h := by
 simp only [quietR,quiet,Bool.and_eq_true,decide_eq_true_eq] at h; exact h.2.1
theorem le_cstep {P : PP} {τ : ES × Nat} (hg : τ.1.b.Good) {p : Int × Int} (hi : τ.1.b.inb p.1 p.2) : τ.1.Le (cstep P τ p).1 4 ∧ (cstep P τ p).2 ≤ max τ.2 3 := by
 obtain ⟨σ,s⟩ := τ
 cases s with
 | succ s => exact ⟨ES.Le.refl hg 4,Nat.le_trans (Nat.le_succ s) (Nat.le_max_left _ _)⟩
 | zero =>
  simp only [cstep]
  split
  ·rename_i hq
   obtain ⟨a,b,c⟩ := le_run (P := P) hg hi (quietR_top hq)
   simp only at a b c
   exact ⟨a,Nat.le_trans (by omega) (Nat.le_max_right _ _)⟩
  ·exact ⟨(le_cln1 hg hi).mono (by omega),by simp⟩
end Go.Proofs.YtjpjohchdfoeaaaGreat
