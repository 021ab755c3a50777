/-
  The segments are read back, the last one perhaps cut short. Plain.
  A block is decoded to what was encoded: the plain law.
  The first passes of a block that was encoded: the plain law.
  The curve of a block that was coded, plain.
  DistortEnds: the walk.
  The examples of the chapter.
  DistortEnds: the walk, whole.
-/
import Derived.Test.YtjpjohchdfoeaaaGreatFl
import Derived.Test.YtjpjohchdfoeaaaGreatTrn
namespace Go.Proofs.YtjpjohchdfoeaaaGreat
open Go Go.Sim
set_option linter.unusedSimpArgs false
set_option linter.unusedVariables false
set_option maxHeartbeats 4000000
set_option maxRecDepth 10000
theorem Gd1 (m : MD) (planes o : Nat) : ∀ (N c k : Nat) (b : BS),c≤N→(Gaf m planes o N k b).drop c = Gaf m planes o (N - c) (k + c) (Gd9 m planes o c k b)
 | N,0,k,b,_=>by simp [Gd9]
 | 0,c + 1,k,b,h=>by omega
 | N + 1,c + 1,k,b,h=>by
  rw [Gaf,List.drop_succ_cons,Gd1 m planes o N c (k + 1) _ (by omega),Gd9]
  rw [show N + 1 - (c + 1) = N - c by omega,show k + (c + 1) = k + 1 + c by omega]
def Gsh (st : S2) : Prop:=st.raw = none→st.a.begun = false→st.a.ds = [0,0,0,0]
theorem G1h {st : S2} (s : Int × Nat) : Gsh (st.put s):=by
 obtain ⟨a,raw⟩:=st
 intro h hb
 cases raw with
 | none=>exact absurd hb (by simp [S2.put,AE.put])
 | some bs=>simp [S2.put] at h
theorem Gmb : ∀ (l : List (Int × Nat)) {st : S2},Gsh st→Gsh (st.puts l)
 | [],_,h=>h
 | s :: l,st,h=>Gmb l (G1h s)
theorem Gri (m : MD) : ∀ (ls : List (List (Int × Nat))) (n : Nat) (st : S2),Gsh st→Gsh (Gap m n ls st).1
 | [],_,st,h=>h
 | l :: r,n,st,h=>by
  refine Gri m r (n + 1) _ (Gmb l ?_)
  split
  ·exact h
  ·exact h
theorem Gm7 (m : MD) : ∀ (x y : List (List (Int × Nat))) (n : Nat) (st : S2),Gap m n (x++y) st = ((Gap m (n + x.length) y (Gap m n x st).1).1,(Gap m n x st).2++(Gap m (n + x.length) y (Gap m n x st).1).2)
 | [],y,n,st=>by simp [Gap]
 | l :: x,y,n,st=>by
  rw [List.cons_append,Gap,Gm7 m x y (n + 1)]
  simp only [Gap,List.length_cons,List.cons_append]
  rw [show n + 1 + x.length = n + (x.length + 1) by omega]
theorem Gj6 (m : MD) : ∀ (x : List (List (Int × Nat))) (n : Nat) (st : S2) (c : Nat),x.length = c + 1→(Gap m n x st).2[c]? = some (Gap m n x st).1.size
 | [],_,_,_,h=>by simp at h
 | [l],n,st,0,_=>rfl
 | [l],n,st,c + 1,h=>by simp at h
 | l :: l' :: x,n,st,0,h=>by simp at h
 | l :: l' :: x,n,st,c + 1,h=>by
  have:=Gj6 m (l' :: x) (n + 1) ((if m.rst = true∧Gaw m n = false then st.back else st).puts l) c (by simpa using h)
  rw [Gap]
  simp only [List.getElem?_cons_succ]
  exact this
theorem Gzt {st : S2} (h : Gjb st) (hb : Gsh st) {D : List Nat} (hl : Go3 st D) : Go3 st (D.take st.size):=by
 obtain ⟨a,raw⟩:=st
 cases raw with
 | none =>
  show Gb3 a _
  unfold S2.size
  simp only
  by_cases hg : a.begun = true
  ·rw [if_pos hg]; exact Gb3.take hl (Nat.le_refl _)
  ·rw [if_neg hg]
   have e:=hb rfl (by simpa using hg)
   have:=h.ok.s1
   simp only at e this
   unfold Gb3
   rw [e,List.take_zero,G0w]
   simp [val,List.replicate]; omega
 | some bs =>
  intro i hi
  rw [← hl i hi]
  unfold Gft
  simp only [S2.size,List.getD_eq_getElem?_getD,List.getElem?_take]
  rw [if_pos (by omega)]
def G2f : List Nat→List Nat→Prop
 | [],_=>True
 | _ :: _,[]=>False
 | c' :: cs',c :: cs=>(c' = c∧G2f cs' cs)∨(1≤c'∧c' < c∧cs' = [])
theorem G2f.refl : ∀ gs : List Nat,G2f gs gs
 | []=>trivial
 | _ :: gs=>.inl ⟨rfl,G2f.refl gs⟩
theorem Gli (m : MD) (ls : List (List (Int × Nat))) : ∀ (gs : List Nat) (n : Nat) (a : AE) (P D : List Nat),∃ P' D',Gb2 m ls gs n a P D = (P++P',D++D')
 | [],n,a,P,D=>⟨[],[],by simp [Gb2]⟩
 | c :: cs,n,a,P,D=>by
  obtain ⟨P',D',e⟩:=Gli m ls cs (n + c) _ (P++((Gap m n ((ls.drop n).take c) ⟨a,if Gaw m n = true then some [] else none⟩).2.take (c - 1)).map (fun z=>min (D.length + z) (D++(Gap m n ((ls.drop n).take c) ⟨a,if Gaw m n = true then some [] else none⟩).1.bytes).length)++[(D++(Gap m n ((ls.drop n).take c) ⟨a,if Gaw m n = true then some [] else none⟩).1.bytes).length]) _
  exact ⟨_,_,by rw [Gb2,e,List.append_assoc,List.append_assoc D,List.append_assoc P]⟩
theorem Gp2 {m : MD} {planes o : Nat} (hpl : planes≤60) (h1 : 1≤planes) (ho : o≤3) {ls : List (List (Int × Nat))} {PF DF : List Nat} (hls : ls.length = 3 * planes - 2) :
  ∀ (gs gs' : List Nat) (j : Nat) (a : AE) (P D : List Nat) (e : BS) (rd : Rdg),G2f gs' gs→(∀ c ∈ gs,1≤c)→Gq1 m j gs→j + Gi4 gs≤ls.length→ls.drop j = Gaf m planes o (ls.length - j) j e→P.length = j→rd.ls.length = j →
   (j≤3 * planes - 3→DJ planes j e rd.b)→a.Ok→a.p.length = 19→a = AE.begin a.p→rd.a.p = a.p→Gb2 m ls gs j a P D = (PF,DF) →
   ∃ rd',Gh4 m planes o (PF.map Int.ofNat) DF gs' D.length rd = rd'∧rd'.ls = rd.ls++Gaf m planes o (Gi4 gs') j e∧rd'.snd = rd.snd
 | gs,[],j,a,P,D,e,rd,_,_,_,_,_,_,_,_,_,_,_,_,_=>⟨rd,rfl,by simp [Gi4,Gaf],rfl⟩
 | [],c' :: cs',j,a,P,D,e,rd,hc,_,_,_,_,_,_,_,_,_,_,_,_=>hc.elim
 | c :: cs,c' :: cs',j,a,P,D,e,rd,hc,hpos,hso,hsum,hdr,hP,hrl,hdj,ha,h19,hab,hap,henc=>by
  obtain ⟨hso1,hso2⟩:=hso
  have hc1:=hpos c (List.mem_cons_self ..)
  simp only [Gi4] at hsum
  rw [hls] at hsum hdr
  have htk : (ls.drop j).take c = Gaf m planes o c j e:=by rw [hdr,Gd3 _ _ _ _ _ _ _ (by omega)]
  rw [Gb2,htk] at henc
  generalize hst0 : (⟨a,if Gaw m j = true then some [] else none⟩ : S2) = st0 at henc
  have hS : Gjb st0:=by
   subst hst0
   refine ⟨ha,h19,fun bs hbs=>?_⟩
   simp only at hbs
   split at hbs
   ·injection hbs with hbs; subst hbs; intro b hb; cases hb
   ·cases hbs
  have hraw : st0.raw = none→∀ i,i < c→Gaw m (j + i) = false:=fun hx i hi=>by
   subst hst0
   cases hrw : Gaw m j with
   | true=>rw [hrw] at hx; simp at hx
   | false=>exact hso1 hrw i hi
  have hbg : Gsh st0:=by
   subst hst0
   intro _ _
   simp only
   rw [hab]; rfl
  have hsy : ∀ l ∈ Gaf m planes o c j e,∀ s ∈ l,Gem st0.raw s:=by
   intro l hl s hs
   obtain ⟨i,hi,rfl⟩:=List.getElem_of_mem hl
   obtain ⟨b',hb⟩:=Ger m planes o c j e i hi
   rw [hb] at hs
   rw [Gbg] at hi
   obtain ⟨q1,q2,q3,q4⟩:=Gjo m b' (j + i) planes o s hs
   refine ⟨by omega,fun hr=>?_⟩
   rw [hraw hr i hi] at q4
   have : ¬ s.1 = -1:=fun x=>by have:=q4.1 x; simp at this
   omega
  obtain ⟨hS1,_⟩:=Ghm m _ j _ hS hsy
  have hle:=Gw4 hS1
  have hbd : Dig (Gap m j (Gaf m planes o c j e) st0).1.bytes:=Gwu hS1
  have hzl:=Ge8 m (Gaf m planes o c j e) j st0
  rw [Gbg] at hzl
  have start : ∀ D',Dig D'→Go3 st0 D'→Fol st0 (if Gaw m rd.ls.length = true then { rd with raw:=some (D',0) } else { rd with a:=AD.start rd.a.p D',raw:=none }).a (if Gaw m rd.ls.length = true then { rd with raw:=some (D',0) } else { rd with a:=AD.start rd.a.p D',raw:=none }).raw D':=by
   intro D' hD' hL
   subst hst0
   rw [hrl]
   cases hrw : Gaw m j with
   | true =>
    simp only [if_true]
    exact ⟨rfl,hap,hab⟩
   | false =>
    rw [hrw] at hL
    simp only [Bool.false_eq_true,if_false] at hL ⊢
    refine ⟨rfl,?_⟩
    simp only
    rw [hap]
    have hL' : Gb3 a D':=hL
    rw [hab] at hL' ⊢
    exact Grk hL'
  have kb : ∀ D',(if Gaw m rd.ls.length = true then { rd with raw:=some (D',0) } else { rd with a:=AD.start rd.a.p D',raw:=none }).b = rd.b∧(if Gaw m rd.ls.length = true then { rd with raw:=some (D',0) } else { rd with a:=AD.start rd.a.p D',raw:=none }).ls = rd.ls∧(if Gaw m rd.ls.length = true then { rd with raw:=some (D',0) } else { rd with a:=AD.start rd.a.p D',raw:=none }).snd = rd.snd:=by
   intro D'; split <;> exact ⟨rfl,rfl,rfl⟩
  obtain ⟨P',D',ext⟩:=Gli m ls cs (j + c) (Gap m j (Gaf m planes o c j e) st0).1.after (P++((Gap m j (Gaf m planes o c j e) st0).2.take (c - 1)).map (fun z=>min (D.length + z) (D++(Gap m j (Gaf m planes o c j e) st0).1.bytes).length)++[(D++(Gap m j (Gaf m planes o c j e) st0).1.bytes).length]) (D++(Gap m j (Gaf m planes o c j e) st0).1.bytes)
  have ext':=henc.symm.trans ext
  injection ext' with eP eD
  rcases hc with ⟨rfl,hc⟩ | ⟨q1,q2,rfl⟩
  ·-- a whole segment
   have hend : ((PF.map Int.ofNat).getD (rd.ls.length + c' - 1) 0).toNat = (D++(Gap m j (Gaf m planes o c' j e) st0).1.bytes).length:=by
    have hi : (P++((Gap m j (Gaf m planes o c' j e) st0).2.take (c' - 1)).map (fun z=>min (D.length + z) (D++(Gap m j (Gaf m planes o c' j e) st0).1.bytes).length)).length = rd.ls.length + c' - 1:=by
     rw [List.length_append,List.length_map,List.length_take,hzl,hP,hrl]; omega
    rw [List.getD_eq_getElem?_getD,List.getElem?_map,eP,List.append_assoc,List.getElem?_append_right (by omega),hi,Nat.sub_self]
    simp
    omega
   have hseg : Gr0 DF D.length (D++(Gap m j (Gaf m planes o c' j e) st0).1.bytes).length = (Gap m j (Gaf m planes o c' j e) st0).1.bytes:=by
    unfold Gr0
    rw [eD,List.take_left,List.drop_left]
   obtain ⟨k1,k2,k3⟩:=kb (Gap m j (Gaf m planes o c' j e) st0).1.bytes
   obtain ⟨rd',g1,g2,g3,g4,g5⟩:=Gg7 hpl h1 ho hbd c' j e st0 (if Gaw m rd.ls.length = true then { rd with raw:=some ((Gap m j (Gaf m planes o c' j e) st0).1.bytes,0) } else { rd with a:=AD.start rd.a.p (Gap m j (Gaf m planes o c' j e) st0).1.bytes,raw:=none })
    (by omega) (fun hh=>by rw [k1]; exact hdj hh) hS hraw (start _ hbd (Ghi m _ _ _ hS hsy hbd hle)) hle
   rw [k2] at g2
   rw [k3] at g3
   obtain ⟨t1,t2⟩:=Gv0 hS1
   have haft : (Gap m j (Gaf m planes o c' j e) st0).1.after = AE.begin (Gap m j (Gaf m planes o c' j e) st0).1.after.p∧rd'.a.p = (Gap m j (Gaf m planes o c' j e) st0).1.after.p:=by
    generalize (Gap m j (Gaf m planes o c' j e) st0).1 = st1 at g4
    obtain ⟨a1,raw1⟩:=st1
    cases raw1 with
    | none=>exact ⟨rfl,g4.2.p⟩
    | some bs=>exact ⟨g4.2.2,g4.2.1⟩
   obtain ⟨rd2,u1,u2,u3⟩:=Gp2 hpl h1 ho hls cs cs' (j + c') (Gap m j (Gaf m planes o c' j e) st0).1.after _ (D++(Gap m j (Gaf m planes o c' j e) st0).1.bytes) (Gd9 m planes o c' j e) rd' hc (fun x hx=>hpos x (List.mem_cons_of_mem _ hx)) hso2 (by omega)
    (by rw [← List.drop_drop,hdr,Gd1 _ _ _ _ _ _ _ (by omega),hls,Nat.sub_sub])
    (by rw [List.length_append,List.length_append,List.length_map,List.length_take,hzl,hP]; simp; omega) (by rw [g2,List.length_append,Gbg,hrl]) g5 t1 t2 haft.1 haft.2 henc
   refine ⟨rd2,?_,?_,by rw [u3,g3]⟩
   ·rw [Gh4]
    simp only [hend,hseg]
    rw [hrl] at g1 ⊢
    rw [g1]
    exact u1
   ·rw [u2,g2,Gi4,List.append_assoc]
    congr 1
    have hx:=List.take_append_drop c' (Gaf m planes o (c' + Gi4 cs') j e)
    rw [Gd3 _ _ _ _ _ _ _ (by omega),Gd1 _ _ _ _ _ _ _ (by omega),Nat.add_sub_cancel_left] at hx
    exact hx
  ·-- the last one,cut short
   have hx : Gaf m planes o c j e = Gaf m planes o c' j e++Gaf m planes o (c - c') (j + c') (Gd9 m planes o c' j e):=by
    have hx:=List.take_append_drop c' (Gaf m planes o c j e)
    rw [Gd3 _ _ _ _ _ _ _ (by omega),Gd1 _ _ _ _ _ _ _ (by omega)] at hx
    exact hx.symm
   have hsy' : ∀ l ∈ Gaf m planes o c' j e,∀ s ∈ l,Gem st0.raw s:=fun l hl=>hsy l (by rw [hx]; exact List.mem_append_left _ hl)
   obtain ⟨hS2,_⟩:=Ghm m _ j _ hS hsy'
   have happ:=Gm7 m (Gaf m planes o c' j e) (Gaf m planes o (c - c') (j + c') (Gd9 m planes o c' j e)) j st0
   rw [← hx,Gbg] at happ
   have hrw2 : (Gap m j (Gaf m planes o c' j e) st0).1.raw = none→st0.raw = none:=by
    have key : ∀ (ls : List (List (Int × Nat))) (n : Nat) (st : S2),(Gap m n ls st).1.raw = none→st.raw = none:=by
     intro ls
     induction ls with
     | nil=>intro n st h; exact h
     | cons l r ih =>
      intro n st h
      rw [Gap] at h
      have:=(Geq _ _).2 (ih _ _ h)
      split at this
      ·exact this
      ·exact this
    exact key _ _ _
   have hle2 : Go3 (Gap m j (Gaf m planes o c' j e) st0).1 (Gap m j (Gaf m planes o c j e) st0).1.bytes:=by
    have h2:=hle
    conv at h2=>arg 1; rw [happ]
    simp only at h2
    exact Ghi m _ _ _ hS2 (fun l hl s hs=>Gd8 (hsy l (by rw [hx]; exact List.mem_append_right _ hl) s hs) hrw2) hbd h2
   have hle3:=Gzt hS2 (Gri m _ j _ hbg) hle2
   have hlast : (Gap m j (Gaf m planes o c j e) st0).2[c' - 1]? = some (Gap m j (Gaf m planes o c' j e) st0).1.size:=by
    rw [happ]
    simp only
    have hl':=Ge8 m (Gaf m planes o c' j e) j st0
    rw [Gbg] at hl'
    rw [List.getElem?_append_left (by omega)]
    exact Gj6 m _ j st0 (c' - 1) (by rw [Gbg]; omega)
   have hend : ((PF.map Int.ofNat).getD (rd.ls.length + c' - 1) 0).toNat = min (D.length + (Gap m j (Gaf m planes o c' j e) st0).1.size) (D++(Gap m j (Gaf m planes o c j e) st0).1.bytes).length:=by
    have hi : rd.ls.length + c' - 1 - P.length = c' - 1:=by omega
    rw [List.getD_eq_getElem?_getD,List.getElem?_map,eP,List.append_assoc,List.append_assoc,List.getElem?_append_right (by omega),hi,List.getElem?_append_left (by rw [List.length_map,List.length_take,hzl]; omega),List.getElem?_map,List.getElem?_take,if_pos (by omega),hlast]
    simp
    omega
   have hseg : Gr0 DF D.length (min (D.length + (Gap m j (Gaf m planes o c' j e) st0).1.size) (D++(Gap m j (Gaf m planes o c j e) st0).1.bytes).length) = (Gap m j (Gaf m planes o c j e) st0).1.bytes.take (Gap m j (Gaf m planes o c' j e) st0).1.size:=by
    unfold Gr0
    generalize (Gap m j (Gaf m planes o c j e) st0).1.bytes = B at *
    generalize (Gap m j (Gaf m planes o c' j e) st0).1.size = z at *
    rw [eD,List.take_append_of_le_length (by omega),List.length_append]
    have : min (D.length + z) (D.length + B.length) = D.length + min z B.length:=by omega
    rw [this,List.take_length_add_append,List.drop_left]
    rw [← List.take_take,List.take_length]
   have hbd2 : Dig ((Gap m j (Gaf m planes o c j e) st0).1.bytes.take (Gap m j (Gaf m planes o c' j e) st0).1.size):=hbd.take _
   obtain ⟨k1,k2,k3⟩:=kb ((Gap m j (Gaf m planes o c j e) st0).1.bytes.take (Gap m j (Gaf m planes o c' j e) st0).1.size)
   obtain ⟨rd',g1,g2,g3,g4,g5⟩:=Gg7 hpl h1 ho hbd2 c' j e st0 (if Gaw m rd.ls.length = true then { rd with raw:=some ((Gap m j (Gaf m planes o c j e) st0).1.bytes.take (Gap m j (Gaf m planes o c' j e) st0).1.size,0) } else { rd with a:=AD.start rd.a.p ((Gap m j (Gaf m planes o c j e) st0).1.bytes.take (Gap m j (Gaf m planes o c' j e) st0).1.size),raw:=none })
    (by omega) (fun hh=>by rw [k1]; exact hdj hh) hS (fun hh i hi=>hraw hh i (by omega)) (start _ hbd2 (Ghi m _ _ _ hS hsy' hbd2 hle3)) hle3
   rw [k2] at g2
   rw [k3] at g3
   refine ⟨rd',?_,by rw [g2]; simp [Gi4],g3⟩
   rw [Gh4,Gh4]
   simp only [hend,hseg]
   rw [hrl] at g1 ⊢
   rw [g1]
theorem Geh {xs : List Int} {w hh o : Int} {m : MD} (h0 : (Gaz xs w hh o m).1 = 0) : 1≤w∧w≤64∧1≤hh∧hh≤64∧xs.length = w.toNat * hh.toNat∧0≤o∧o≤3∧Gab xs≤60 ∧
  (Gaz xs w hh o m).2 = Gaf m (Gab xs) o.toNat (3 * Gab xs - 2) 0 (Ga2 w.toNat hh.toNat xs xs.length):=by
 unfold Gaz at h0 ⊢
 split at h0
 ·simp at h0
 ·rename_i hsz
  split at h0
  ·simp at h0
  ·rename_i hln
   split at h0
   ·simp at h0
   ·rename_i ho
    split at h0
    ·rename_i hb
     have hp:=Gge.1 hb
     rw [if_neg hsz,if_neg hln,if_neg ho,if_pos hb]
     simp only [Bool.not_eq_false,sized,decide_eq_true_eq] at hsz
     simp only [ne_eq,Decidable.not_not] at hln
     obtain ⟨w,rfl⟩:=Int.eq_ofNat_of_zero_le (show 0≤w by omega)
     obtain ⟨hh,rfl⟩:=Int.eq_ofNat_of_zero_le (show 0≤hh by omega)
     rw [← Int.natCast_mul] at hln
     refine ⟨by omega,by omega,by omega,by omega,?_,by omega,by omega,hp,rfl⟩
     simp only [Int.toNat_natCast]
     omega
    ·simp at h0
theorem Gz0 (l : List (List (Int × Nat))) : l.map toI = G77 l:=rfl
theorem G1m : ∀ (ps : List Nat) (l : Nat),vgo (ps.map Int.ofNat) (l : Int) = (Gls ps l).map Int.ofNat
 | [],l=>rfl
 | x :: ps,l=>by
  simp only [List.map_cons,vgo,Gls]
  by_cases h : x < l
  ·rw [if_pos h,if_pos (by simp; omega)]; rfl
  ·rw [if_neg h,if_neg (by simp; omega)]; exact G1m ps x
section
variable {xs : List Int} {w hh o : Int} {m : MD}
theorem Gqa (h0 : (Gal xs w hh o m).1 = 0) : Gex (Gab xs) ((Gal xs w hh o m).2.ps.map Int.ofNat) ((Gal xs w hh o m).2.ds.map Int.ofNat) = 0:=by
 obtain ⟨_,hp,hpl,hps,hv,hd,hdl⟩:=Gcl.2 h0
 unfold Gex
 rw [if_neg (by omega),if_neg (by rw [List.length_map,hps]; omega)]
 have:=G1m (Gal xs w hh o m).2.ps 0
 rw [hv] at this
 rw [show ((0 : Nat) : Int) = 0 from rfl] at this
 rw [this]
 simp
 omega
theorem Gqb (h0 : (Gal xs w hh o m).1 = 0) {n : Nat} (hn : n≤3 * Gab xs - 2) (hc : G2f (Gba m n) (Gba m (3 * Gab xs - 2))) :
  (Geu m (Gab xs) o ((Gal xs w hh o m).2.ps.map Int.ofNat) (Gal xs w hh o m).2.ds n w.toNat hh.toNat).ls = Gaf m (Gab xs) o.toNat n 0 (Ga2 w.toNat hh.toNat xs xs.length) ∧
  (Geu m (Gab xs) o ((Gal xs w hh o m).2.ps.map Int.ofNat) (Gal xs w hh o m).2.ds n w.toNat hh.toNat).snd = n:=by
 obtain ⟨hs0,hp,hpl,hps,hv,hd,hdl⟩:=Gcl.2 h0
 obtain ⟨w1,w2,h1,h2,hl,o0,o1,_,hsym⟩:=Geh hs0
 have hN : (Gaz xs w hh o m).2.length = 3 * Gab xs - 2:=by rw [hsym,Gbg]
 obtain ⟨g1,g2,g3⟩:=Ggh (m:=m) (n:=n) (by omega)
 obtain ⟨G1,G2,G3⟩:=Ggh (m:=m) (n:=3 * Gab xs - 2) (by omega)
 have he : Gb2 m (Gaz xs w hh o m).2 (Gba m (3 * Gab xs - 2)) 0 (AE.begin (AE.base 19)) [] [] = ((Gal xs w hh o m).2.ps,(Gal xs w hh o m).2.ds):=by
  rw [← hN]
  unfold Gal at h0 ⊢
  simp only [ne_eq,hs0,not_true_eq_false,if_false] at h0 ⊢
  split at h0
  ·simp at h0
  ·rename_i hb
   rw [if_neg hb]
 by_cases hp1 : Gab xs = 0
 ·obtain rfl : n = 0:=by omega
  unfold Geu
  have e : Gba m 0 = []:=by unfold Gba; rw [if_pos (by omega)]
  rw [e]
  exact ⟨rfl,rfl⟩
 have hst:=Gov (w:=w.toNat) (h:=hh.toNat) (by omega) (by omega) (by omega) (by omega) hl hp (by omega)
 obtain ⟨rd',r1,r2,r3⟩:=Gp2 (m:=m) (planes:=Gab xs) (o:=o.toNat) hp (by omega) (by omega) (PF:=(Gal xs w hh o m).2.ps) (DF:=(Gal xs w hh o m).2.ds) hN (Gba m (3 * Gab xs - 2)) (Gba m n) 0 (AE.begin (AE.base 19)) [] []
  (Ga2 w.toNat hh.toNat xs xs.length) ⟨⟨AE.base 19,[],0,0⟩,none,Gcb w.toNat hh.toNat,(n : Int),[]⟩ hc (fun c hc=>(G3 c hc).1) (Gkx m _) (by rw [hN]; omega) (by rw [hN,List.drop_zero,hsym]; rfl) rfl rfl
  (fun _=>hst) (Ghf (Gfw 19)) (by simp [AE.begin,AE.base]) rfl rfl he
 have ho : ((o.toNat : Nat) : Int) = o:=by omega
 rw [ho] at r1
 unfold Geu
 rw [List.length_nil] at r1
 rw [r1]
 refine ⟨?_,r3⟩
 rw [r2,g1]; rfl
theorem Qat (h0 : (Gal xs w hh o m).1 = 0) :
  Gfr m (Gab xs) ((Gal xs w hh o m).2.ps.map Int.ofNat) (Gal xs w hh o m).2.ds ((Gal xs w hh o m).2.ps.length : Nat) w hh o = (0,xs,List.replicate xs.length 0) ∧
  sndP m (Gab xs) ((Gal xs w hh o m).2.ps.map Int.ofNat) (Gal xs w hh o m).2.ds ((Gal xs w hh o m).2.ps.length : Nat) w hh o = ((((Gal xs w hh o m).2.ps.length : Nat) : Int),0):=by
 obtain ⟨hs0,hp,hpl,hps,hv,hd,hdl⟩:=Gcl.2 h0
 obtain ⟨w1,w2,h1,h2,hl,o0,o1,_,hsym⟩:=Geh hs0
 have hc : Gcx (Gab xs) ((Gal xs w hh o m).2.ps.map Int.ofNat) ((Gal xs w hh o m).2.ds.map Int.ofNat) ((Gal xs w hh o m).2.ps.length : Nat) w hh o = 0:=by
  unfold Gcx
  rw [Gqa h0,if_neg (by simp),if_neg (by rw [List.length_map]; omega),if_neg (by omega)]
 obtain ⟨r1,r2⟩:=Gqb h0 (Nat.le_refl _) (G2f.refl _)
 have hw : ((w.toNat : Nat) : Int) = w:=by omega
 have hh' : ((hh.toNat : Nat) : Int) = hh:=by omega
 have hr:=Gtb (m:=m) (o:=o) (w:=w.toNat) (h:=hh.toNat) (by omega) (by omega) (by omega) (by omega) hl hp ⟨o0,o1⟩
 rw [hw,hh'] at hr
 unfold Gfr sndP
 rw [hc,hps,Int.toNat_natCast,r1,r2,Gz0]
 simp only [ne_eq,not_true_eq_false,if_false]
 refine ⟨hr,?_⟩
 split <;> rfl
end
theorem Gjy {m : MD} : ∀ (f F sz l L : Nat),1≤sz→l≤L→l≤f→L≤F→G2f (Ghv m f sz l) (Ghv m F sz L)
 | 0,F,sz,l,L,_,_,hf,_=>by simp [Ghv,G2f]
 | f + 1,F,sz,l,L,hs,hl,hf,hF=>by
  unfold Ghv
  by_cases h0 : l = 0
  ·rw [if_pos h0]; trivial
  ·rw [if_neg h0]
   cases F with
   | zero=>omega
   | succ F =>
    simp only
    rw [if_neg (by omega)]
    by_cases hlt : l < sz
    ·have e1 : min sz l = l:=by omega
     rw [e1,Nat.sub_self]
     have e0 : Ghv m f (Ge5 m sz) 0 = []:=by cases f <;> simp [Ghv]
     rw [e0]
     by_cases he : l = min sz L
     ·exact .inl ⟨he,trivial⟩
     ·exact .inr ⟨by omega,by omega,rfl⟩
    ·have e1 : min sz l = sz:=by omega
     have e2 : min sz L = sz:=by omega
     rw [e1,e2]
     exact .inl ⟨rfl,Gjy f F (Ge5 m sz) (l - sz) (L - sz) (Gh7 hs) (by omega) (by omega) (by omega)⟩
theorem G04 {m : MD} {n N : Nat} (h : n≤N) (hN : N≤178) : G2f (Gba m n) (Gba m N):=by
 unfold Gba
 by_cases h0 : n < 1
 ·rw [if_pos (.inl h0)]; trivial
 ·rw [if_neg (by omega),if_neg (by omega)]
  by_cases hr : m.res = true
  ·have e : ∀ k,Gb6 m k = 1:=fun k=>by unfold Gb6; rw [if_pos hr]
   rw [e,e]
   exact Gjy n N 1 n N (by omega) h (by omega) (by omega)
  ·by_cases hb : m.byp = true
   ·have e : ∀ k,Gb6 m k = 10:=fun k=>by unfold Gb6; rw [if_neg hr,if_pos hb]
    rw [e,e]
    exact Gjy n N 10 n N (by omega) h (by omega) (by omega)
   ·have e : ∀ k,Gb6 m k = k:=fun k=>by unfold Gb6; rw [if_neg hr,if_neg hb]
    rw [e,e]
    have g : ∀ k,1≤k→Ghv m k k k = [k]:=fun k hk=>by
     cases k with
     | zero=>omega
     | succ k =>
      unfold Ghv
      rw [if_neg (by omega),Nat.min_self,Nat.sub_self]
      have e0 : ∀ z,Ghv m k z 0 = []:=fun z=>by cases k <;> simp [Ghv]
      rw [e0]
    rw [g n (by omega),g N (by omega)]
    by_cases he : n = N
    ·exact .inl ⟨he,trivial⟩
    ·exact .inr ⟨by omega,by omega,rfl⟩
section
variable {xs : List Int} {w h : Nat} {o : Int} {m : MD}
end
section
variable {xs : List Int} {w hh o : Int} {m : MD}
theorem Qa2 (h0 : (Gal xs w hh o m).1 = 0) {n : Nat} (hn : n≤3 * Gab xs - 2) :
  Gfr m (Gab xs) ((Gal xs w hh o m).2.ps.map Int.ofNat) (Gal xs w hh o m).2.ds n w hh o = Gdy (G77 (Gaf m (Gab xs) o.toNat n 0 (Ga2 w.toNat hh.toNat xs xs.length))) (Gab xs) w.toNat hh.toNat o m:=by
 obtain ⟨hs0,hp,hpl,hps,hv,hd,hdl⟩:=Gcl.2 h0
 obtain ⟨w1,w2,h1,h2,hl,o0,o1,_,hsym⟩:=Geh hs0
 have hc : Gcx (Gab xs) ((Gal xs w hh o m).2.ps.map Int.ofNat) ((Gal xs w hh o m).2.ds.map Int.ofNat) n w hh o = 0:=by
  unfold Gcx
  rw [Gqa h0,if_neg (by simp),if_neg (by rw [List.length_map]; omega),if_neg (by omega)]
 obtain ⟨r1,_⟩:=Gqb h0 hn (G04 hn (by omega))
 have hw : ((w.toNat : Nat) : Int) = w:=by omega
 have hh' : ((hh.toNat : Nat) : Int) = hh:=by omega
 unfold Gfr
 rw [hc,Int.toNat_natCast,r1,Gz0,hw,hh']
 simp only [ne_eq,not_true_eq_false,if_false]
end
theorem G1f (v k : Int) : Gr1 v k 0 = (v,k):=by unfold Gr1; rw [if_pos (.inl (by decide))]
theorem Gy0 : ∀ (vs ks : List Int),ks.length = vs.length→uv 0 vs ks = vs∧uk 0 vs ks = ks
 | [],[],_=>⟨rfl,rfl⟩
 | v :: vs,k :: ks,h=>by
  obtain ⟨a,b⟩:=Gy0 vs ks (by simpa using h)
  unfold uv at a
  unfold uk at b
  unfold uv uk
  rw [List.zipWith_cons_cons,List.zipWith_cons_cons,a,b,G1f]
  exact ⟨rfl,rfl⟩
 | [],_ :: _,h=>by simp at h
 | _ :: _,[],h=>by simp at h
theorem qok1 : QOk 1 16:=⟨by decide,by decide,by decide,by decide⟩
theorem recon1 {c : Int} (h1 : -200≤c) (h2 : c≤200) : Gfy c 0 1 16 = c:=by
 have hm : MOk 0 1 16:=⟨qok1,by decide,by decide⟩
 have ht : thr 1 16 = 1:=by decide
 have hp : (2 : Int) ^ (0 : Int).toNat = 1:=rfl
 unfold Gfy
 by_cases h0 : c = 0
 ·rw [if_pos (.inl h0),h0]
 ·rw [if_neg (by simp [h0,hm])]
  unfold Gvx Qdr
  rw [ht,hp]
  split <;> omega
theorem G2b {c : Int} (h1 : -200≤c) (h2 : c≤200) : Gop c c 0 1 16 = 0:=by
 unfold Gop
 rw [recon1 h1 h2]; omega
theorem Gz2 {c m : Int} (h1 : -200≤c) (h2 : c≤200) : Gop c 0 m 1 16 * Gop c 0 m 1 16 = c * c:=by
 have h : Gfy 0 m 1 16 = 0:=by unfold Gfy; rw [if_pos (.inl rfl)]
 unfold Gop
 rw [h]
 by_cases h0 : 0≤c
 ·rw [show min (max (c - 0) (0 - c)) 32767 = c by omega]
 ·rw [show min (max (c - 0) (0 - c)) 32767 = -c by omega,Int.neg_mul_neg]
def sqT (cs : List Int) : Nat→Int
 | 0=>0
 | n + 1=>sqT cs n + cs.getD n 0 * cs.getD n 0
theorem G68 {c : Int} (h1 : -200≤c) (h2 : c≤200) : 0≤c * c∧c * c≤40000:=by
 by_cases h0 : 0≤c
 ·exact Gbx (c:=200) (d:=200) h0 h2 h0 h2
 ·have:=Gbx (a:=-c) (b:=-c) (c:=200) (d:=200) (by omega) (by omega) (by omega) (by omega)
  rwa [Int.neg_mul_neg] at this
theorem G1i {cs : List Int} : ∀ n : Nat,(∀ i,i < n→-200≤cs.getD i 0∧cs.getD i 0≤200)→0≤sqT cs n∧sqT cs n≤40000 * n
 | 0,_=>by simp [sqT]
 | n + 1,h=>by
  obtain ⟨a,b⟩:=G1i n fun i hi=>h i (by omega)
  obtain ⟨c,d⟩:=G68 (h n (by omega)).1 (h n (by omega)).2
  rw [sqT]
  omega
theorem Gv1 {cs vs ms : List Int} : ∀ n : Nat,(∀ i,i < n→-200≤cs.getD i 0∧cs.getD i 0≤200)→(∀ i,i < n→vs.getD i 0 = 0)→tot 1 16 cs vs ms n = sqT cs n
 | 0,_,_=>rfl
 | n + 1,h,hv=>by
  rw [tot,sqT,Gv1 n (fun i hi=>h i (by omega)) (fun i hi=>hv i (by omega)),hv n (by omega),Gz2 (h n (by omega)).1 (h n (by omega)).2]
theorem Gwm {cs vs ms : List Int} : ∀ n : Nat,(∀ i,i < n→-200≤cs.getD i 0∧cs.getD i 0≤200)→(∀ i,i < n→vs.getD i 0 = cs.getD i 0∧ms.getD i 0 = 0)→tot 1 16 cs vs ms n = 0
 | 0,_,_=>rfl
 | n + 1,h,hv=>by
  rw [tot,Gwm n (fun i hi=>h i (by omega)) (fun i hi=>hv i (by omega)),(hv n (by omega)).1,(hv n (by omega)).2,G2b (h n (by omega)).1 (h n (by omega)).2]
  rfl
theorem Guc {aft : Nat→Int × Int} {ps : List Int} : ∀ (k n : Nat) (r d : List Int),(∀ i,n≤i→i < n + k→(aft i).2 = 0) →
  Gl0 aft ps k n r d = (0,r++(List.range' n k).map (Gkt ps),d++(List.range' n k).map fun i=>(aft i).1)
 | 0,n,r,d,_=>by simp [Gl0]
 | k + 1,n,r,d,h=>by
  unfold Gl0
  rw [if_neg (by rw [h n (by omega) (by omega)]; simp),Guc k (n + 1) _ _ (fun i h1 h2=>h i (by omega) (by omega))]
  rw [List.range'_succ,List.map_cons,List.map_cons,List.append_assoc,List.append_assoc]
  rfl
theorem Gc1 {l : List Int} {i : Nat} (hi : i < l.length) : l.getD i 0 = l[i]:=by rw [List.getD_eq_getElem?_getD,List.getElem?_eq_getElem hi]; rfl
theorem Gp0 : ∀ (ps : List Nat) (l r : Nat),Gls ps l = some r→∀ i (h : i + 1 < ps.length),ps[i]≤ps[i + 1]
 | [],_,_,_,i,h=>by simp at h
 | [x],_,_,_,i,h=>by simp at h
 | x :: y :: ps,l,r,hv,i,h=>by
  simp only [Gls] at hv
  split at hv
  ·cases hv
  ·split at hv
   ·cases hv
   ·rename_i h1 h2
    cases i with
    | zero=>show x≤y; omega
    | succ i =>
     have:=Gp0 (y :: ps) x r (by simp only [Gls]; rw [if_neg h2]; exact hv) i (by simpa using h)
     simpa using this
section
variable {xs : List Int} {w hh o wt : Int} {m : MD}
theorem Gpy (h0 : (Gal xs w hh o m).1 = 0) {n : Nat} (hn : n≤3 * Gab xs - 2) :
  ∃ vs ks,Gfr m (Gab xs) ((Gal xs w hh o m).2.ps.map Int.ofNat) (Gal xs w hh o m).2.ds n w hh o = (0,vs,ks)∧vs.length = xs.length∧ks.length = xs.length∧(∀ k ∈ ks,0≤k∧k≤60) ∧
   (n = 0→∀ v ∈ vs,v = 0)∧(n = 3 * Gab xs - 2→vs = xs∧ks = List.replicate xs.length 0):=by
 obtain ⟨hs0,hp,hpl,hps,hv,hd,hdl⟩:=Gcl.2 h0
 obtain ⟨w1,w2,h1,h2,hl,o0,o1,_,hsym⟩:=Geh hs0
 have hlt:=Gf2.1 (Nat.le_refl (Gab xs))
 by_cases hN : n = 3 * Gab xs - 2
 ·obtain ⟨de,_⟩:=Qat h0
  rw [hps,← hN] at de
  refine ⟨xs,List.replicate xs.length 0,de,rfl,by simp,fun k hk=>by rw [List.eq_of_mem_replicate hk]; omega,fun hz v hv'=>?_,fun _=>⟨rfl,rfl⟩⟩
  have hp0 : Gab xs = 0:=by omega
  have:=hlt v hv'
  rw [hp0] at this
  omega
 ·obtain ⟨d,e,dl,hall⟩:=Gm6 (m:=m) (o:=o) (w:=w.toNat) (h:=hh.toNat) (by omega) (by omega) (by omega) (by omega) hl hp ⟨o0,o1⟩ (n:=n) (by omega)
  refine ⟨_,_,(Qa2 h0 hn).trans e,by simp [dl],by simp [dl],fun k hk=>?_,fun hz v hv'=>?_,fun hx=>absurd hx hN⟩
  ·obtain ⟨c,hc,rfl⟩:=List.mem_map.1 hk
   obtain ⟨i,hi,rfl⟩:=List.mem_iff_getElem.1 hc
   obtain ⟨b1,b2,_⟩:=hall i (by omega) hi
   omega
  ·obtain ⟨c,hc,rfl⟩:=List.mem_map.1 hv'
   obtain ⟨i,hi,rfl⟩:=List.mem_iff_getElem.1 hc
   obtain ⟨_,_,b3⟩:=hall i (by omega) hi
   rw [b3,hz]
   have hlo : leftOf (Gab xs : Int) 0 d.cs[i].t = Gab xs:=by simp [leftOf]
   rw [hlo,Int.toNat_natCast]
   have hx:=hlt xs[i] (List.getElem_mem (by omega))
   have hc0 : Gps (Gab xs) xs[i].natAbs = 0:=by unfold Gps; rw [Nat.div_eq_of_lt hx,Nat.zero_mul]
   unfold Gok
   rw [hc0]
   split <;> rfl
theorem G8z (h0 : (Gal xs w hh o m).1 = 0) (hw : 0≤wt∧wt≤16) (hx : ∀ v ∈ xs,-200≤v∧v≤200) (hlen : xs.length≤4096) {n : Nat} (hn : n≤3 * Gab xs - 2) :
  ∃ D,Gy7 m (Gab xs) ((Gal xs w hh o m).2.ps.map Int.ofNat) (Gal xs w hh o m).2.ds w hh o xs 1 16 wt 0 n = (D,0)∧0≤D∧D≤70368744177664∧(n = 0→D = wt * sqT xs xs.length)∧(n = 3 * Gab xs - 2→D = 0):=by
 obtain ⟨vs,ks,e,l1,l2,hk,hz,hN⟩:=Gpy h0 hn
 obtain ⟨u1,u2⟩:=Gy0 vs ks (by omega)
 have hr : ∀ i,i < xs.length→-200≤xs.getD i 0∧xs.getD i 0≤200:=fun i hi=>by rw [Gc1 hi]; exact hx _ (List.getElem_mem hi)
 have hm : ks.all mOk = true:=by
  rw [List.all_eq_true]
  intro k hk'
  have:=hk k hk'
  simp [mOk]; omega
 obtain ⟨t1,t2⟩:=Gpr 1 16 xs vs ks xs.length
 obtain ⟨p1,p2⟩:=Gbx (a:=tot 1 16 xs vs ks xs.length) (b:=wt) (c:=4096 * 1073676289) (d:=16) t1 (by omega) hw.1 hw.2
 refine ⟨tot 1 16 xs vs ks xs.length * wt,?_,p1,by omega,fun h=>?_,fun h=>?_⟩
 ·unfold Gy7
  rw [e]
  simp only [ne_eq,not_true_eq_false,if_false,u1,u2]
  unfold Gms
  rw [if_neg (by omega),if_neg (by omega),if_neg (by intro hc; rcases hc with hc | hc | hc; exact hc qok1; omega; omega),if_pos hm]
 ·rw [Gv1 xs.length hr fun i hi=>by rw [Gc1 (by omega)]; exact hz h _ (List.getElem_mem _),Int.mul_comm]
 ·obtain ⟨rfl,rfl⟩:=hN h
  rw [Gwm vs.length hr fun i hi=>⟨rfl,by rw [Gc1 (by simpa using hi)]; simp⟩,Int.zero_mul]
theorem Qbb (h0 : (Gal xs w hh o m).1 = 0) (hw : 0≤wt∧wt≤16) (hx : ∀ v ∈ xs,-200≤v∧v≤200) :
  ∃ rs dd,Gpv m (Gab xs) ((Gal xs w hh o m).2.ps.map Int.ofNat) (Gal xs w hh o m).2.ds w hh o xs 1 16 wt 0 = (0,rs,dd)∧rs.length = (Gal xs w hh o m).2.ps.length + 1∧dd.length = (Gal xs w hh o m).2.ps.length + 1 ∧
   (∀ i,i≤(Gal xs w hh o m).2.ps.length→0≤dd.getD i 0∧dd.getD i 0≤70368744177664∧rs.getD i 0≤65535∧(0 < i→rs.getD i 0 = ((Gal xs w hh o m).2.ps.map Int.ofNat).getD (i - 1) 0∧rs.getD (i - 1) 0≤rs.getD i 0)) ∧
   dd.getD 0 0 = wt * sqT xs xs.length∧dd.getD (Gal xs w hh o m).2.ps.length 0 = 0∧rs.getD 0 0 = 0:=by
 obtain ⟨hs0,hp,hpl,hps,hv,hd,hdl⟩:=Gcl.2 h0
 obtain ⟨w1,w2,h1,h2,hl,o0,o1,_,hsym⟩:=Geh hs0
 have hlen : xs.length≤4096:=by
  rw [hl]
  exact Nat.mul_le_mul (show w.toNat≤64 by omega) (show hh.toNat≤64 by omega)
 have hmul : (xs.length : Int) = w * hh:=by
  rw [hl,Int.natCast_mul]
  congr 1 <;> omega
 have hA:=fun (n : Nat) (hn : n≤3 * Gab xs - 2)=>G8z (wt:=wt) h0 hw hx hlen hn
 have hmono:=Gp0 _ _ _ hv
 have hle:=Gon _ _ _ hv
 have hloop:=Guc (aft:=Gy7 m (Gab xs) ((Gal xs w hh o m).2.ps.map Int.ofNat) (Gal xs w hh o m).2.ds w hh o xs 1 16 wt 0) (ps:=(Gal xs w hh o m).2.ps.map Int.ofNat) (((Gal xs w hh o m).2.ps.map Int.ofNat).length + 1) 0 [] [] (fun i _ hi=>by
  rw [List.length_map] at hi
  obtain ⟨D,e,_⟩:=hA i (by omega)
  rw [e])
 rw [List.nil_append,List.nil_append] at hloop
 have hdec : (Gfr m (Gab xs) ((Gal xs w hh o m).2.ps.map Int.ofNat) (Gal xs w hh o m).2.ds 0 w hh o).1 = 0:=by
  obtain ⟨vs,ks,e,_⟩:=Gpy h0 (n:=0) (by omega)
  have e' : Gfr m (Gab xs) ((Gal xs w hh o m).2.ps.map Int.ofNat) (Gal xs w hh o m).2.ds 0 w hh o = (0,vs,ks):=e
  rw [e']
 have hcur : Gpv m (Gab xs) ((Gal xs w hh o m).2.ps.map Int.ofNat) (Gal xs w hh o m).2.ds w hh o xs 1 16 wt 0 = Gl0 (Gy7 m (Gab xs) ((Gal xs w hh o m).2.ps.map Int.ofNat) (Gal xs w hh o m).2.ds w hh o xs 1 16 wt 0) ((Gal xs w hh o m).2.ps.map Int.ofNat) (((Gal xs w hh o m).2.ps.map Int.ofNat).length + 1) 0 [] []:=by
  unfold Gpv
  rw [hdec,if_neg (by simp),if_neg (by simp [hmul]),if_neg (by intro hc; rcases hc with hc | hc | hc | hc | hc; exact hc qok1; omega; omega; omega; omega)]
 rw [hloop,List.length_map] at hcur
 generalize (Gal xs w hh o m).2.ps = ps at *
 generalize Gy7 m (Gab xs) (ps.map Int.ofNat) (Gal xs w hh o m).2.ds w hh o xs 1 16 wt 0 = aft at *
 have hd' : ∀ i,i≤ps.length→((List.range' 0 (ps.length + 1)).map fun i=>(aft i).1).getD i 0 = (aft i).1:=fun i hi=>by
  rw [List.getD_eq_getElem?_getD,List.getElem?_map,List.getElem?_range' (by omega)]; simp
 have hr' : ∀ i,i≤ps.length→((List.range' 0 (ps.length + 1)).map (Gkt (ps.map Int.ofNat))).getD i 0 = Gkt (ps.map Int.ofNat) i:=fun i hi=>by
  rw [List.getD_eq_getElem?_getD,List.getElem?_map,List.getElem?_range' (by omega)]; simp
 have hrp : ∀ i (hi : i < ps.length),Gkt (ps.map Int.ofNat) (i + 1) = (ps[i] : Nat):=fun i hi=>by
  unfold Gkt
  rw [if_neg (by omega),Nat.add_sub_cancel,Gc1 (by simpa using hi)]
  simp
 refine ⟨_,_,hcur,by simp,by simp,fun i hi=>?_,?_,?_,?_⟩
 ·rw [hd' i hi,hr' i hi]
  obtain ⟨D,e,d1,d2,_,_⟩:=hA i (by omega)
  rw [e]
  refine ⟨d1,d2,?_,fun hi0=>?_⟩
  ·cases i with
   | zero=>show (0 : Int)≤65535; omega
   | succ i =>
    rw [hrp i (by omega)]
    have:=hle ps[i] (List.getElem_mem _)
    omega
  ·obtain ⟨i,rfl⟩ : ∃ j,i = j + 1:=⟨i - 1,by omega⟩
   rw [Nat.add_sub_cancel,hr' i (by omega),hrp i (by omega)]
   refine ⟨by rw [Gc1 (by simpa using (show i < ps.length by omega))]; simp,?_⟩
   cases i with
   | zero=>show (0 : Int)≤_; omega
   | succ i =>
    rw [hrp i (by omega)]
    have:=hmono i (by omega)
    omega
 ·rw [hd' 0 (by omega)]
  obtain ⟨D,e,_,_,d3,_⟩:=hA 0 (by omega)
  rw [e]; exact d3 rfl
 ·rw [hd' _ (Nat.le_refl _)]
  obtain ⟨D,e,_,_,_,d4⟩:=hA ps.length (by omega)
  rw [e]; exact d4 hps
 ·rw [hr' 0 (by omega)]; rfl
end
theorem Qam {h : Gag} {s : Value} {xs : List Int} (r : Rk .i64 h s xs) : Go1 h s xs:=by
 refine ⟨r.sl,r.sb,r.bl,fun v hv=>?_⟩
 have:=r.rng v hv
 simp [Lit.wf,IntKind.min,IntKind.max,IntKind.signed,IntKind.bits] at this
 omega
section
variable {R : RP} {K : List Ga1}
theorem G6d {h : Gag} {sv : Value} {xs : List Int} {X : Nat} {w hh o a b wt s : Int} {x1 x2 x3 x4 x5 : Bool} (hp : Rk .i64 h sv xs) (hX : blk? h X = some ⟨false,[.int .i64 w,.int .i64 hh,.int .i64 o,.bool x1,.bool x2,.bool x3,.bool x4,.bool x5,.int .i64 a,.int .i64 b,.int .i64 wt,.int .i64 s]⟩)
  (hw : 0≤wt∧wt≤16) (hl : xs.length≤64) (hEx : R (.bool true) h)
  (hK : (∀ v ∈ xs,-200≤v∧v≤200)→∀ (K1 K2 K6 K7 K8 K9 Ka Kb Kc Kd Ke Kf Kg Kh Ki Kj Kk Kl Km Kn Ko Kp Kq Kr Ks Kt Ku Kv Kw Kx Ky Kz J0 J1 J2 J3 J4 J5 J6 J7 J8 J9 Ja Jb Jc Jd Je Jf Jg Jh Ji Jj Jk Jl Jm Jn Jo Jp Jq Jr Js Jt Ju Jv Jw Jx Jy Jz Y0 Y1 Y2 Y3 Y4 Y5 Y6 Y7 Y8 Y9 Ya Yb Yc Yd Ye Yf Yg Yh Yi Yj Yk Yl Ym Yn Yo Yp Yq Yr Ys Yt Yu Yv Yw Yx Yy Yz Z0 Z1 Z2 Z3 Z4 Z5 Z6 Z7 Z8 Z9 Za Zb Zc Zd Ze Zf Zg Zh Zi Zj Zk Zl Zm Zn Zo Zp Zq Zr Zs Zt Zu Zv Zw Zx Zy Zz K0q K1q K2q K3q K4q K5q K6q K7q K8q K9q Kaq Kbq Kcq Kdq Keq Kfq Kgq Khq Kiq Kjq Kkq Klq Kmq Knq Koq Kpq Kqq Krq Ksq Ktq Kuq Kvq Kwq Kxq Kyq Kzq J0q J1q J2q J3q J4q J5q J6q J7q J8q J9q Jaq Jbq Jcq Jdq Jeq Jfq Jgq Jhq Jiq Jjq Jkq Jlq Jmq Jnq Joq Jpq Jqq Jrq Jsq Jtq Juq Jvq : Value),Ok tab R8 K #[sv,K1,K2,ptr X,.bool false,.int .i64 (wt * sqT xs xs.length),K6,K7,K8,K9,Ka,Kb,Kc,Kd,Ke,Kf,Kg,Kh,Ki,Kj,Kk,Kl,Km,Kn,Ko,Kp,Kq,Kr,Ks,Kt,Ku,Kv,Kw,Kx,Ky,Kz,J0,J1,J2,J3,J4,J5,J6,J7,J8,J9,Ja,Jb,Jc,Jd,Je,Jf,Jg,Jh,Ji,Jj,Jk,Jl,Jm,Jn,Jo,Jp,Jq,Jr,Js,Jt,Ju,Jv,Jw,Jx,Jy,Jz,Y0,Y1,Y2,Y3,Y4,Y5,Y6,Y7,Y8,Y9,Ya,Yb,Yc,Yd,Ye,Yf,Yg,Yh,Yi,Yj,Yk,Yl,Ym,Yn,Yo,Yp,Yq,Yr,Ys,Yt,Yu,Yv,Yw,Yx,Yy,Yz,Z0,Z1,Z2,Z3,Z4,Z5,Z6,Z7,Z8,Z9,Za,Zb,Zc,Zd,Ze,Zf,Zg,Zh,Zi,Zj,Zk,Zl,Zm,Zn,Zo,Zp,Zq,Zr,Zs,Zt,Zu,Zv,Zw,Zx,Zy,Zz,K0q,K1q,K2q,K3q,K4q,K5q,K6q,K7q,K8q,K9q,Kaq,Kbq,Kcq,Kdq,Keq,Kfq,Kgq,Khq,Kiq,Kjq,Kkq,Klq,Kmq,Knq,Koq,Kpq,Kqq,Krq,Ksq,Ktq,Kuq,Kvq,Kwq,Kxq,Kyq,Kzq,J0q,J1q,J2q,J3q,J4q,J5q,J6q,J7q,J8q,J9q,Jaq,Jbq,Jcq,Jdq,Jeq,Jfq,Jgq,Jhq,Jiq,Jjq,Jkq,Jlq,Jmq,Jnq,Joq,Jpq,Jqq,Jrq,Jsq,Jtq,Juq,Jvq] h R) :
  ∀ (j i : Nat) (K1 K2 K7 K8 K9 Ka Kb Kc Kd Ke Kf Kg Kh Ki Kj Kk Kl Km Kn Ko Kp Kq Kr Ks Kt Ku Kv Kw Kx Ky Kz J0 J1 J2 J3 J4 J5 J6 J7 J8 J9 Ja Jb Jc Jd Je Jf Jg Jh Ji Jj Jk Jl Jm Jn Jo Jp Jq Jr Js Jt Ju Jv Jw Jx Jy Jz Y0 Y1 Y2 Y3 Y4 Y5 Y6 Y7 Y8 Y9 Ya Yb Yc Yd Ye Yf Yg Yh Yi Yj Yk Yl Ym Yn Yo Yp Yq Yr Ys Yt Yu Yv Yw Yx Yy Yz Z0 Z1 Z2 Z3 Z4 Z5 Z6 Z7 Z8 Z9 Za Zb Zc Zd Ze Zf Zg Zh Zi Zj Zk Zl Zm Zn Zo Zp Zq Zr Zs Zt Zu Zv Zw Zx Zy Zz K0q K1q K2q K3q K4q K5q K6q K7q K8q K9q Kaq Kbq Kcq Kdq Keq Kfq Kgq Khq Kiq Kjq Kkq Klq Kmq Knq Koq Kpq Kqq Krq Ksq Ktq Kuq Kvq Kwq Kxq Kyq Kzq J0q J1q J2q J3q J4q J5q J6q J7q J8q J9q Jaq Jbq Jcq Jdq Jeq Jfq Jgq Jhq Jiq Jjq Jkq Jlq Jmq Jnq Joq Jpq Jqq Jrq Jsq Jtq Juq Jvq : Value),i + j = xs.length→(∀ k,k < i→-200≤xs.getD k 0∧xs.getD k 0≤200) →
   Ok tab R8 (.inLoop Qex :: .inBlock 0 :: K) #[sv,K1,K2,ptr X,.bool false,.int .i64 (wt * sqT xs i),.int .i64 (i : Nat),K7,K8,K9,Ka,Kb,Kc,Kd,Ke,Kf,Kg,Kh,Ki,Kj,Kk,Kl,Km,Kn,Ko,Kp,Kq,Kr,Ks,Kt,Ku,Kv,Kw,Kx,Ky,Kz,J0,J1,J2,J3,J4,J5,J6,J7,J8,J9,Ja,Jb,Jc,Jd,Je,Jf,Jg,Jh,Ji,Jj,Jk,Jl,Jm,Jn,Jo,Jp,Jq,Jr,Js,Jt,Ju,Jv,Jw,Jx,Jy,Jz,Y0,Y1,Y2,Y3,Y4,Y5,Y6,Y7,Y8,Y9,Ya,Yb,Yc,Yd,Ye,Yf,Yg,Yh,Yi,Yj,Yk,Yl,Ym,Yn,Yo,Yp,Yq,Yr,Ys,Yt,Yu,Yv,Yw,Yx,Yy,Yz,Z0,Z1,Z2,Z3,Z4,Z5,Z6,Z7,Z8,Z9,Za,Zb,Zc,Zd,Ze,Zf,Zg,Zh,Zi,Zj,Zk,Zl,Zm,Zn,Zo,Zp,Zq,Zr,Zs,Zt,Zu,Zv,Zw,Zx,Zy,Zz,K0q,K1q,K2q,K3q,K4q,K5q,K6q,K7q,K8q,K9q,Kaq,Kbq,Kcq,Kdq,Keq,Kfq,Kgq,Khq,Kiq,Kjq,Kkq,Klq,Kmq,Knq,Koq,Kpq,Kqq,Krq,Ksq,Ktq,Kuq,Kvq,Kwq,Kxq,Kyq,Kzq,J0q,J1q,J2q,J3q,J4q,J5q,J6q,J7q,J8q,J9q,Jaq,Jbq,Jcq,Jdq,Jeq,Jfq,Jgq,Jhq,Jiq,Jjq,Jkq,Jlq,Jmq,Jnq,Joq,Jpq,Jqq,Jrq,Jsq,Jtq,Juq,Jvq] h R:=by
 intro j
 induction j with
 | zero =>
  intro i;intros;rename_i hi hr
  obtain rfl : i = xs.length:=by omega
  obtain ⟨pa,pc,hs⟩:=hp.sl.shape
  have hK':=hK (fun v hv=>by
   obtain ⟨k,hk,rfl⟩:=List.mem_iff_getElem.1 hv
   have:=hr k hk
   rwa [Gc1 hk] at this)
  generalize wt * sqT xs xs.length = q at *
  rw [hs] at hK'
  rw [hs,Gad,l8_0,G5e,G3o]
  simp
  exact hK' ..
 | succ j ih =>
  intro i;intros;rename_i hi hr
  have hil : i < xs.length:=by omega
  have hlt : (i : Int) < (xs.length : Int):=by omega
  obtain ⟨id,off,bb,e,hbk,hc⟩:=hp.get hil
  have hw1 : IntKind.i64.wrap ((i : Int) + 1) = ((i + 1 : Nat) : Int):=Gbc (n:=i + 1) (by omega)
  have g:=Gc1 hil
  obtain ⟨q1,q2⟩:=G1i i hr
  have hT : sqT xs (i + 1) = sqT xs i + xs[i] * xs[i]:=by rw [sqT,g]
  have ih':=fun (hx : -200≤xs[i]∧xs[i]≤200) K1 K2 K7 K8 K9 Ka Kb Kc Kd Ke Kf Kg Kh Ki Kj Kk Kl Km Kn Ko Kp Kq Kr Ks Kt Ku Kv Kw Kx Ky Kz J0 J1 J2 J3 J4 J5 J6 J7 J8 J9 Ja Jb Jc Jd Je Jf Jg Jh Ji Jj Jk Jl Jm Jn Jo Jp Jq Jr Js Jt Ju Jv Jw Jx Jy Jz Y0 Y1 Y2 Y3 Y4 Y5 Y6 Y7 Y8 Y9 Ya Yb Yc Yd Ye Yf Yg Yh Yi Yj Yk Yl Ym Yn Yo Yp Yq Yr Ys Yt Yu Yv Yw Yx Yy Yz Z0 Z1 Z2 Z3 Z4 Z5 Z6 Z7 Z8 Z9 Za Zb Zc Zd Ze Zf Zg Zh Zi Zj Zk Zl Zm Zn Zo Zp Zq Zr Zs Zt Zu Zv Zw Zx Zy Zz K0q K1q K2q K3q K4q K5q K6q K7q K8q K9q Kaq Kbq Kcq Kdq Keq Kfq Kgq Khq Kiq Kjq Kkq Klq Kmq Knq Koq Kpq Kqq Krq Ksq Ktq Kuq Kvq Kwq Kxq Kyq Kzq J0q J1q J2q J3q J4q J5q J6q J7q J8q J9q Jaq Jbq Jcq Jdq Jeq Jfq Jgq Jhq Jiq Jjq Jkq Jlq Jmq Jnq Joq Jpq Jqq Jrq Jsq Jtq Juq Jvq=>ih (i + 1) K1 K2 K7 K8 K9 Ka Kb Kc Kd Ke Kf Kg Kh Ki Kj Kk Kl Km Kn Ko Kp Kq Kr Ks Kt Ku Kv Kw Kx Ky Kz J0 J1 J2 J3 J4 J5 J6 J7 J8 J9 Ja Jb Jc Jd Je Jf Jg Jh Ji Jj Jk Jl Jm Jn Jo Jp Jq Jr Js Jt Ju Jv Jw Jx Jy Jz Y0 Y1 Y2 Y3 Y4 Y5 Y6 Y7 Y8 Y9 Ya Yb Yc Yd Ye Yf Yg Yh Yi Yj Yk Yl Ym Yn Yo Yp Yq Yr Ys Yt Yu Yv Yw Yx Yy Yz Z0 Z1 Z2 Z3 Z4 Z5 Z6 Z7 Z8 Z9 Za Zb Zc Zd Ze Zf Zg Zh Zi Zj Zk Zl Zm Zn Zo Zp Zq Zr Zs Zt Zu Zv Zw Zx Zy Zz K0q K1q K2q K3q K4q K5q K6q K7q K8q K9q Kaq Kbq Kcq Kdq Keq Kfq Kgq Khq Kiq Kjq Kkq Klq Kmq Knq Koq Kpq Kqq Krq Ksq Ktq Kuq Kvq Kwq Kxq Kyq Kzq J0q J1q J2q J3q J4q J5q J6q J7q J8q J9q Jaq Jbq Jcq Jdq Jeq Jfq Jgq Jhq Jiq Jjq Jkq Jlq Jmq Jnq Joq Jpq Jqq Jrq Jsq Jtq Juq Jvq (by omega) (fun k hk=>by
   by_cases hki : k = i
   ·subst hki; rw [g]; exact hx
   ·exact hr k (by omega))
  rw [hT] at ih'
  clear ih
  generalize ((i + 1 : Nat) : Int) = i1 at *
  generalize xs[i] = v at *
  generalize sqT xs i = T at *
  have hTb : T≤40000 * 64:=by omega
  rw [e] at ih' ⊢
  rw [Gad,l8_0,G5e,G3o]
  by_cases c1 : v < -200
  ·simp [Gaa,Gah,hlt,hbk,hc,c1,Gk7,G2c]
   exact hEx
  by_cases c2 : 200 < v
  ·simp [Gaa,Gah,hlt,hbk,hc,c1,c2,Gk7,G2c]
   exact hEx
  obtain ⟨s1,s2⟩:=G68 (c:=v) (by omega) (by omega)
  obtain ⟨t1,t2⟩:=Gbx (a:=wt) (b:=v * v) (c:=16) (d:=40000) hw.1 hw.2 s1 s2
  obtain ⟨u1,u2⟩:=Gbx (a:=wt) (b:=T) (c:=16) (d:=40000 * 64) hw.1 hw.2 q1 hTb
  have m1 : -3200≤wt * v∧wt * v≤3200:=by
   by_cases h0 : 0≤v
   ·have:=Gbx (a:=wt) (b:=v) (c:=16) (d:=200) hw.1 hw.2 h0 (by omega); omega
   ·have:=Gbx (a:=wt) (b:=-v) (c:=16) (d:=200) hw.1 hw.2 (by omega) (by omega)
    rw [Int.mul_neg] at this; omega
  have w1 : IntKind.i64.wrap (wt * v) = wt * v:=Gan (by omega) (by omega)
  have w2 : IntKind.i64.wrap (wt * v * v) = wt * (v * v):=by rw [Int.mul_assoc]; exact Gan (by omega) (by omega)
  have w3 : IntKind.i64.wrap (wt * T + wt * (v * v)) = wt * (T + v * v):=by rw [Int.mul_add]; exact Gan (by omega) (by omega)
  have ih'':=fun K1 K2 K7 K8 K9 Ka Kb Kc Kd Ke Kf Kg Kh Ki Kj Kk Kl Km Kn Ko Kp Kq Kr Ks Kt Ku Kv Kw Kx Ky Kz J0 J1 J2 J3 J4 J5 J6 J7 J8 J9 Ja Jb Jc Jd Je Jf Jg Jh Ji Jj Jk Jl Jm Jn Jo Jp Jq Jr Js Jt Ju Jv Jw Jx Jy Jz Y0 Y1 Y2 Y3 Y4 Y5 Y6 Y7 Y8 Y9 Ya Yb Yc Yd Ye Yf Yg Yh Yi Yj Yk Yl Ym Yn Yo Yp Yq Yr Ys Yt Yu Yv Yw Yx Yy Yz Z0 Z1 Z2 Z3 Z4 Z5 Z6 Z7 Z8 Z9 Za Zb Zc Zd Ze Zf Zg Zh Zi Zj Zk Zl Zm Zn Zo Zp Zq Zr Zs Zt Zu Zv Zw Zx Zy Zz K0q K1q K2q K3q K4q K5q K6q K7q K8q K9q Kaq Kbq Kcq Kdq Keq Kfq Kgq Khq Kiq Kjq Kkq Klq Kmq Knq Koq Kpq Kqq Krq Ksq Ktq Kuq Kvq Kwq Kxq Kyq Kzq J0q J1q J2q J3q J4q J5q J6q J7q J8q J9q Jaq Jbq Jcq Jdq Jeq Jfq Jgq Jhq Jiq Jjq Jkq Jlq Jmq Jnq Joq Jpq Jqq Jrq Jsq Jtq Juq Jvq=>ih' ⟨by omega,by omega⟩ K1 K2 K7 K8 K9 Ka Kb Kc Kd Ke Kf Kg Kh Ki Kj Kk Kl Km Kn Ko Kp Kq Kr Ks Kt Ku Kv Kw Kx Ky Kz J0 J1 J2 J3 J4 J5 J6 J7 J8 J9 Ja Jb Jc Jd Je Jf Jg Jh Ji Jj Jk Jl Jm Jn Jo Jp Jq Jr Js Jt Ju Jv Jw Jx Jy Jz Y0 Y1 Y2 Y3 Y4 Y5 Y6 Y7 Y8 Y9 Ya Yb Yc Yd Ye Yf Yg Yh Yi Yj Yk Yl Ym Yn Yo Yp Yq Yr Ys Yt Yu Yv Yw Yx Yy Yz Z0 Z1 Z2 Z3 Z4 Z5 Z6 Z7 Z8 Z9 Za Zb Zc Zd Ze Zf Zg Zh Zi Zj Zk Zl Zm Zn Zo Zp Zq Zr Zs Zt Zu Zv Zw Zx Zy Zz K0q K1q K2q K3q K4q K5q K6q K7q K8q K9q Kaq Kbq Kcq Kdq Keq Kfq Kgq Khq Kiq Kjq Kkq Klq Kmq Knq Koq Kpq Kqq Krq Ksq Ktq Kuq Kvq Kwq Kxq Kyq Kzq J0q J1q J2q J3q J4q J5q J6q J7q J8q J9q Jaq Jbq Jcq Jdq Jeq Jfq Jgq Jhq Jiq Jjq Jkq Jlq Jmq Jnq Joq Jpq Jqq Jrq Jsq Jtq Juq Jvq
  generalize wt * T = T1 at *
  generalize wt * (v * v) = T2 at *
  generalize wt * (T + v * v) = T3 at *
  simp [Gaa,Gah,hlt,hbk,hc,c1,c2,hX,w1,w2,w3,hw1]
  exact ih'' ..
theorem G0h {h : Gag} {C O ir jd : Nat} {pl : Int} {pv dv : Value} {ps rs dd : List Int} (hC : blk? h C = some ⟨false,[.int .i64 pl,pv,dv]⟩) (hp : Rk .i64 h pv ps)
  (hO : blk? h O = some ⟨false,[.slice (some ⟨ir,0,none⟩) (ps.length + 1) 1,.slice (some ⟨jd,0,none⟩) (ps.length + 1) 1]⟩) (hr : blk? h ir = some ⟨false,Gcj rs⟩) (hd : blk? h jd = some ⟨false,Gcj dd⟩) (lr : rs.length = ps.length + 1) (ld : dd.length = ps.length + 1) (hl : ps.length < 1000000)
  (hall : ∀ i,i≤ps.length→0≤dd.getD i 0∧dd.getD i 0≤70368744177664∧rs.getD i 0≤65535∧(0 < i→rs.getD i 0 = ps.getD (i - 1) 0∧rs.getD (i - 1) 0≤rs.getD i 0))
  (hK : ∀ (K0 K1 K2 K3 K5 K6 K7 K8 K9 Ka Kb Kc Kd Ke Kf Kg Kh Ki Kj Kk Kl Km Kn Ko Kp Kq Kr Ks Kt Ku Kv Kw Kx Ky Kz J0 J1 J2 J3 J4 J5 J6 J7 J8 J9 Ja Jb Jc Jd Je Jf Jg Jh Ji Jj Jk Jl Jm Jn Jo Jp Jq Jr Js Jt Ju Jv Jw Jx Jy Jz Y0 Y1 Y2 Y3 Y4 Y5 Y6 Y7 Y8 Y9 Ya Yb Yc Yd Ye Yf Yg Yh Yi Yj Yk Yl Ym Yn Yo Yp Yq Yr Ys Yt Yu Yv Yw Yx Yy Yz Z0 Z1 Z2 Z3 Z4 Z5 Z6 Z7 Z8 Z9 Za Zb Zc Zd Ze Zf Zg Zh Zi Zj Zk Zl Zm Zn Zo Zp Zq Zr Zs Zt Zu Zv Zw Zx Zy Zz K0q K1q K2q K3q K4q K5q K6q K7q K8q K9q Kaq Kbq Kcq Kdq Keq Kfq Kgq Khq Kiq Kjq Kkq Klq Kmq Knq Koq Kpq Kqq Krq Ksq Ktq Kuq Kvq Kwq Kxq Kyq Kzq J0q J1q J2q J3q J4q J5q J6q J7q J8q J9q Jaq Jbq Jcq Jdq Jeq Jfq Jgq Jhq Jiq Jjq Jkq Jlq Jmq Jnq Joq Jpq Jqq Jrq Jsq Jtq Juq Jvq : Value),Ok tab R8 K #[K0,K1,K2,K3,.bool false,K5,K6,K7,K8,K9,Ka,Kb,Kc,Kd,Ke,Kf,Kg,Kh,Ki,Kj,Kk,Kl,Km,Kn,Ko,Kp,Kq,Kr,Ks,Kt,Ku,Kv,Kw,Kx,Ky,Kz,J0,J1,J2,J3,J4,J5,J6,J7,J8,J9,Ja,Jb,Jc,Jd,Je,Jf,Jg,Jh,Ji,Jj,Jk,Jl,Jm,Jn,Jo,Jp,Jq,Jr,Js,Jt,Ju,Jv,Jw,Jx,Jy,Jz,Y0,Y1,Y2,Y3,Y4,Y5,Y6,Y7,Y8,Y9,Ya,Yb,Yc,Yd,Ye,Yf,Yg,Yh,Yi,Yj,Yk,Yl,Ym,Yn,Yo,Yp,Yq,Yr,Ys,Yt,Yu,Yv,Yw,Yx,Yy,Yz,Z0,Z1,Z2,Z3,Z4,Z5,Z6,Z7,Z8,Z9,Za,Zb,Zc,Zd,Ze,Zf,Zg,Zh,Zi,Zj,Zk,Zl,Zm,Zn,Zo,Zp,Zq,Zr,Zs,Zt,Zu,Zv,Zw,Zx,Zy,Zz,K0q,K1q,K2q,K3q,K4q,K5q,K6q,K7q,K8q,K9q,Kaq,Kbq,Kcq,Kdq,Keq,Kfq,Kgq,Khq,Kiq,Kjq,Kkq,Klq,Kmq,Knq,Koq,Kpq,Kqq,Krq,Ksq,Ktq,Kuq,Kvq,Kwq,Kxq,Kyq,Kzq,J0q,J1q,J2q,J3q,J4q,J5q,J6q,J7q,J8q,J9q,Jaq,Jbq,Jcq,Jdq,Jeq,Jfq,Jgq,Jhq,Jiq,Jjq,Jkq,Jlq,Jmq,Jnq,Joq,Jpq,Jqq,Jrq,Jsq,Jtq,Juq,Jvq] h R) :
  ∀ (j i : Nat) (K0 K1 K2 K3 K5 K6 K7 K9 Kb Ke Kf Kg Kh Ki Kj Kk Kl Km Kn Ko Kp Kq Kr Ks Kt Ku Kv Kw Kx Ky Kz J0 J1 J2 J3 J4 J5 J6 J7 J8 J9 Ja Jb Jc Jd Je Jf Jg Jh Ji Jj Jk Jl Jm Jn Jo Jp Jq Jr Js Jt Ju Jv Jw Jx Jy Jz Y0 Y1 Y2 Y3 Y4 Y5 Y6 Y7 Y8 Y9 Ya Yb Yc Yd Ye Yf Yg Yh Yi Yj Yk Yl Ym Yn Yo Yp Yq Yr Ys Yt Yu Yv Yw Yx Yy Yz Z0 Z1 Z2 Z3 Z4 Z5 Z6 Z7 Z8 Z9 Za Zb Zc Zd Ze Zf Zg Zh Zi Zj Zk Zl Zm Zn Zo Zp Zq Zr Zs Zt Zu Zv Zw Zx Zy Zz K0q K1q K2q K3q K4q K5q K6q K7q K8q K9q Kaq Kbq Kcq Kdq Keq Kfq Kgq Khq Kiq Kjq Kkq Klq Kmq Knq Koq Kpq Kqq Krq Ksq Ktq Kuq Kvq Kwq Kxq Kyq Kzq J0q J1q J2q J3q J4q J5q J6q J7q J8q J9q Jaq Jbq Jcq Jdq Jeq Jfq Jgq Jhq Jiq Jjq Jkq Jlq Jmq Jnq Joq Jpq Jqq Jrq Jsq Jtq Juq Jvq : Value),i + j = ps.length + 1 →
   Ok tab R8 (.inLoop Qew :: .inBlock 2 :: K) #[K0,K1,K2,K3,.bool false,K5,K6,K7,ptr C,K9,ptr O,Kb,.int .i64 (ps.length : Nat),.int .i64 (i : Nat),Ke,Kf,Kg,Kh,Ki,Kj,Kk,Kl,Km,Kn,Ko,Kp,Kq,Kr,Ks,Kt,Ku,Kv,Kw,Kx,Ky,Kz,J0,J1,J2,J3,J4,J5,J6,J7,J8,J9,Ja,Jb,Jc,Jd,Je,Jf,Jg,Jh,Ji,Jj,Jk,Jl,Jm,Jn,Jo,Jp,Jq,Jr,Js,Jt,Ju,Jv,Jw,Jx,Jy,Jz,Y0,Y1,Y2,Y3,Y4,Y5,Y6,Y7,Y8,Y9,Ya,Yb,Yc,Yd,Ye,Yf,Yg,Yh,Yi,Yj,Yk,Yl,Ym,Yn,Yo,Yp,Yq,Yr,Ys,Yt,Yu,Yv,Yw,Yx,Yy,Yz,Z0,Z1,Z2,Z3,Z4,Z5,Z6,Z7,Z8,Z9,Za,Zb,Zc,Zd,Ze,Zf,Zg,Zh,Zi,Zj,Zk,Zl,Zm,Zn,Zo,Zp,Zq,Zr,Zs,Zt,Zu,Zv,Zw,Zx,Zy,Zz,K0q,K1q,K2q,K3q,K4q,K5q,K6q,K7q,K8q,K9q,Kaq,Kbq,Kcq,Kdq,Keq,Kfq,Kgq,Khq,Kiq,Kjq,Kkq,Klq,Kmq,Knq,Koq,Kpq,Kqq,Krq,Ksq,Ktq,Kuq,Kvq,Kwq,Kxq,Kyq,Kzq,J0q,J1q,J2q,J3q,J4q,J5q,J6q,J7q,J8q,J9q,Jaq,Jbq,Jcq,Jdq,Jeq,Jfq,Jgq,Jhq,Jiq,Jjq,Jkq,Jlq,Jmq,Jnq,Joq,Jpq,Jqq,Jrq,Jsq,Jtq,Juq,Jvq] h R:=by
 intro j
 induction j with
 | zero =>
  intro i;intros;rename_i hi
  obtain rfl : i = ps.length + 1:=by omega
  have hn : ¬ ((ps.length + 1 : Nat) : Int)≤(ps.length : Int):=by omega
  generalize ((ps.length + 1 : Nat) : Int) = pi at *
  rw [Gad,l8_1,G3v,G5q]
  simp [hn]
  exact hK ..
 | succ j ih =>
  intro i;intros;rename_i hi
  have hil : i≤ps.length:=by omega
  have hle : (i : Int)≤(ps.length : Int):=by omega
  have hlt : (i : Int) < ((ps.length + 1 : Nat) : Int):=by omega
  have hw1 : IntKind.i64.wrap ((i : Int) + 1) = ((i + 1 : Nat) : Int):=Gbc (n:=i + 1) (by omega)
  obtain ⟨a1,a2,a3,a4⟩:=hall i hil
  have hdi : dd.getD i 0 = dd[i]'(by omega):=Gc1 _
  have hri : rs.getD i 0 = rs[i]'(by omega):=Gc1 _
  have hcd : (Gcj dd)[i]? = some (.int .i64 (dd[i]'(by omega))):=by unfold Gcj; rw [List.getElem?_map,List.getElem?_eq_getElem (by omega)]; rfl
  have hcr : (Gcj rs)[i]? = some (.int .i64 (rs[i]'(by omega))):=by unfold Gcj; rw [List.getElem?_map,List.getElem?_eq_getElem (by omega)]; rfl
  have td : i < (Gcj dd).length:=by rw [G2d]; omega
  have tr : i < (Gcj rs).length:=by rw [G2d]; omega
  have gd:=Ge6 hcd
  have gr:=Ge6 hcr
  rw [hdi] at a1 a2
  rw [hri] at a3 a4
  have ih':=fun K0 K1 K2 K3 K5 K6 K7 K9 Kb Ke Kf Kg Kh Ki Kj Kk Kl Km Kn Ko Kp Kq Kr Ks Kt Ku Kv Kw Kx Ky Kz J0 J1 J2 J3 J4 J5 J6 J7 J8 J9 Ja Jb Jc Jd Je Jf Jg Jh Ji Jj Jk Jl Jm Jn Jo Jp Jq Jr Js Jt Ju Jv Jw Jx Jy Jz Y0 Y1 Y2 Y3 Y4 Y5 Y6 Y7 Y8 Y9 Ya Yb Yc Yd Ye Yf Yg Yh Yi Yj Yk Yl Ym Yn Yo Yp Yq Yr Ys Yt Yu Yv Yw Yx Yy Yz Z0 Z1 Z2 Z3 Z4 Z5 Z6 Z7 Z8 Z9 Za Zb Zc Zd Ze Zf Zg Zh Zi Zj Zk Zl Zm Zn Zo Zp Zq Zr Zs Zt Zu Zv Zw Zx Zy Zz K0q K1q K2q K3q K4q K5q K6q K7q K8q K9q Kaq Kbq Kcq Kdq Keq Kfq Kgq Khq Kiq Kjq Kkq Klq Kmq Knq Koq Kpq Kqq Krq Ksq Ktq Kuq Kvq Kwq Kxq Kyq Kzq J0q J1q J2q J3q J4q J5q J6q J7q J8q J9q Jaq Jbq Jcq Jdq Jeq Jfq Jgq Jhq Jiq Jjq Jkq Jlq Jmq Jnq Joq Jpq Jqq Jrq Jsq Jtq Juq Jvq=>ih (i + 1) K0 K1 K2 K3 K5 K6 K7 K9 Kb Ke Kf Kg Kh Ki Kj Kk Kl Km Kn Ko Kp Kq Kr Ks Kt Ku Kv Kw Kx Ky Kz J0 J1 J2 J3 J4 J5 J6 J7 J8 J9 Ja Jb Jc Jd Je Jf Jg Jh Ji Jj Jk Jl Jm Jn Jo Jp Jq Jr Js Jt Ju Jv Jw Jx Jy Jz Y0 Y1 Y2 Y3 Y4 Y5 Y6 Y7 Y8 Y9 Ya Yb Yc Yd Ye Yf Yg Yh Yi Yj Yk Yl Ym Yn Yo Yp Yq Yr Ys Yt Yu Yv Yw Yx Yy Yz Z0 Z1 Z2 Z3 Z4 Z5 Z6 Z7 Z8 Z9 Za Zb Zc Zd Ze Zf Zg Zh Zi Zj Zk Zl Zm Zn Zo Zp Zq Zr Zs Zt Zu Zv Zw Zx Zy Zz K0q K1q K2q K3q K4q K5q K6q K7q K8q K9q Kaq Kbq Kcq Kdq Keq Kfq Kgq Khq Kiq Kjq Kkq Klq Kmq Knq Koq Kpq Kqq Krq Ksq Ktq Kuq Kvq Kwq Kxq Kyq Kzq J0q J1q J2q J3q J4q J5q J6q J7q J8q J9q Jaq Jbq Jcq Jdq Jeq Jfq Jgq Jhq Jiq Jjq Jkq Jlq Jmq Jnq Joq Jpq Jqq Jrq Jsq Jtq Juq Jvq (by omega)
  clear ih hdi hri hall hK
  have n1 : ¬ dd[i] < 0:=by omega
  have n2 : ¬ 70368744177664 < dd[i]:=by omega
  have n3 : ¬ 65535 < rs[i]:=by omega
  rw [Gad,l8_1,G3v,G5q]
  cases i with
  | zero =>
   have h01 : ((0 + 1 : Nat) : Int) = 1:=rfl
   have hw0 : IntKind.i64.wrap 1 = 1:=rfl
   rw [h01] at ih'
   generalize dd[0] = di at *
   generalize rs[0] = ri at *
   generalize hDD : Gcj dd = DD at *
   generalize hRR : Gcj rs = RR at *
   have hle0 : (0 : Int)≤(ps.length : Int):=by omega
   have hlt0 : (0 : Int) < ((ps.length + 1 : Nat) : Int):=by omega
   generalize ((ps.length + 1 : Nat) : Int) = pi at *
   simp [Gaa,Gah,hle0,hlt0,hO,hr,hd,hcd,hcr,gd,gr,td,tr,n1,n2,n3,hw0]
   exact ih' ..
  | succ i =>
   obtain ⟨b1,b2⟩:=a4 (by omega)
   rw [Nat.add_sub_cancel] at b1 b2
   obtain ⟨id,off,bb,e,hbk,hc⟩:=hp.get (i:=i) (by omega)
   have hpi : ps.getD i 0 = ps[i]'(by omega):=Gc1 _
   have hr0 : rs.getD i 0 = rs[i]'(by omega):=Gc1 _
   have hcr0 : (Gcj rs)[i]? = some (.int .i64 (rs[i]'(by omega))):=by unfold Gcj; rw [List.getElem?_map,List.getElem?_eq_getElem (by omega)]; rfl
   have tr0 : i < (Gcj rs).length:=by rw [G2d]; omega
   have gr0:=Ge6 hcr0
   rw [hpi] at b1
   rw [hr0] at b2
   have b1' : (rs[i + 1] != ps[i]) = false:=by simp [b1]
   have b2' : ¬ rs[i + 1] < rs[i]:=by omega
   have hpos : (0 : Int) < ((i + 1 : Nat) : Int):=by omega
   have hsub : IntKind.i64.wrap (((i + 1 : Nat) : Int) - 1) = (i : Int):=by rw [Gan (by omega) (by omega)]; omega
   have hi0 : (i : Int) < (ps.length : Int):=by omega
   have hi1 : (i : Int) < ((ps.length + 1 : Nat) : Int):=by omega
   have hltB : ((i + 1 : Nat) : Int) < (ps.length : Int) + 1:=by omega
   have hi1B : (i : Int) < (ps.length : Int) + 1:=by omega
   have hnn : ¬ ((i + 1 : Nat) : Int) < 0:=by omega
   have hnz : ((i + 1 : Nat) : Int).toNat = i + 1:=by omega
   have hge : 0≤((i + 1 : Nat) : Int):=by omega
   rw [e] at hC
   generalize dd[i + 1] = di at *
   generalize rs[i + 1] = ri at *
   generalize rs[i] = r0 at *
   generalize ps[i] = p0 at *
   generalize hDD : Gcj dd = DD at *
   generalize hRR : Gcj rs = RR at *
   generalize ((i + 1 + 1 : Nat) : Int) = i2 at *
   generalize ((i + 1 : Nat) : Int) = i1 at *
   generalize ((ps.length + 1 : Nat) : Int) = pi at *
   simp (maxSteps:=2000000) [Gaa,Gah,hle,hlt,hltB,hi1B,hge,hnz,hO,hC,hr,hd,hcd,hcr,gd,gr,td,tr,n1,n2,n3,hpos,hsub,hi0,hi1,hcr0,gr0,tr0,hbk,hc,b1',b2',hw1]
   exact ih' ..
end
deriving instance DecidableEq for Cd
theorem Rk.ofI {h : Gag} {s : Value} {xs : List Nat} (ho : Ga7 h 1 s xs.length (nI xs)) (hx : ∀ v ∈ xs,v < 9223372036854775808) : Rk .i64 h s (xs.map Int.ofNat):=by
 refine Rk.own (by rw [List.length_map]; simpa [kis,nI,Function.comp_def] using ho) ?_ (fun v hv=>?_)
 ·obtain ⟨a,c,rfl⟩:=ho.sl.shape
  cases a with
  | none=>simp
  | some a=>have:=ho.lt (id:=a.block) (by simp [sid]); simp; omega
 ·obtain ⟨w,hw,rfl⟩:=List.mem_map.1 hv
  have:=hx w hw
  simp [Lit.wf,IntKind.min,IntKind.max,IntKind.signed,IntKind.bits]; omega
theorem Rk.ofU {h : Gag} {s : Value} {xs : List Nat} (ho : Ga7 h 1 s xs.length (nU xs)) (hx : ∀ v ∈ xs,v < 256) : Rk .u8 h s (xs.map Int.ofNat):=by
 refine Rk.own (by rw [List.length_map]; simpa [kis,nU,Function.comp_def] using ho) ?_ (fun v hv=>?_)
 ·obtain ⟨a,c,rfl⟩:=ho.sl.shape
  cases a with
  | none=>simp
  | some a=>have:=ho.lt (id:=a.block) (by simp [sid]); simp; omega
 ·obtain ⟨w,hw,rfl⟩:=List.mem_map.1 hv
  have:=hx w hw
  simp [Lit.wf,IntKind.min,IntKind.max,IntKind.signed,IntKind.bits]; omega
theorem CdV.ci {B : Nat} {h : Gag} {v : Value} {r : Cd} (c : CdV B h v r) (h1 : ∀ v ∈ r.ps,v < 9223372036854775808) (h2 : ∀ v ∈ r.ds,v < 256) : CI B h v r.pl (r.ps.map Int.ofNat) (r.ds.map Int.ofNat):=by
 obtain ⟨pv,dv,e,a,b,p,q⟩:=c.ex
 exact ⟨⟨pv,dv,e,Rk.ofI a h1,Rk.ofU b h2,fun id hid=>(p id hid).1,q⟩⟩
section
variable {h : Gag} {R : RP} {k : List Ga1}
end
section
theorem G0b {H : Gag} {sv : Value} {xs : List Int} {X : Nat} {w hh o a b wt s : Int} {x1 x2 x3 x4 x5 : Bool} (hpH : Rk .i64 H sv xs) (hsX : sid sv ≠ some X) (b0 : blk? H X = some ⟨false,[.int .i64 w,.int .i64 hh,.int .i64 o,.bool x1,.bool x2,.bool x3,.bool x4,.bool x5,.int .i64 a,.int .i64 b,.int .i64 wt,.int .i64 s]⟩) (hw : 0≤wt∧wt≤16) (hxl : xs.length≤64) (hx : ∀ v ∈ xs,-200≤v∧v≤200) {tl4 : RCode} (hT4 : tlC 4 B8 = tl4) :
  ∀ (K1 K2 K6 K7 K8 K9 Ka Kb Kc Kd Ke Kf Kg Kh Ki Kj Kk Kl Km Kn Ko Kp Kq Kr Ks Kt Ku Kv Kw Kx Ky Kz J0 J1 J2 J3 J4 J5 J6 J7 J8 J9 Ja Jb Jc Jd Je Jf Jg Jh Ji Jj Jk Jl Jm Jn Jo Jp Jq Jr Js Jt Ju Jv Jw Jx Jy Jz Y0 Y1 Y2 Y3 Y4 Y5 Y6 Y7 Y8 Y9 Ya Yb Yc Yd Ye Yf Yg Yh Yi Yj Yk Yl Ym Yn Yo Yp Yq Yr Ys Yt Yu Yv Yw Yx Yy Yz Z0 Z1 Z2 Z3 Z4 Z5 Z6 Z7 Z8 Z9 Za Zb Zc Zd Ze Zf Zg Zh Zi Zj Zk Zl Zm Zn Zo Zp Zq Zr Zs Zt Zu Zv Zw Zx Zy Zz K0q K1q K2q K3q K4q K5q K6q K7q K8q K9q Kaq Kbq Kcq Kdq Keq Kfq Kgq Khq Kiq Kjq Kkq Klq Kmq Knq Koq Kpq Kqq Krq Ksq Ktq Kuq Kvq Kwq Kxq Kyq Kzq J0q J1q J2q J3q J4q J5q J6q J7q J8q J9q Jaq Jbq Jcq Jdq Jeq Jfq Jgq Jhq Jiq Jjq Jkq Jlq Jmq Jnq Joq Jpq Jqq Jrq Jsq Jtq Juq Jvq : Value),Ok tab R8 [.code tl4] #[sv,K1,K2,ptr X,.bool false,.int .i64 (wt * sqT xs xs.length),K6,K7,K8,K9,Ka,Kb,Kc,Kd,Ke,Kf,Kg,Kh,Ki,Kj,Kk,Kl,Km,Kn,Ko,Kp,Kq,Kr,Ks,Kt,Ku,Kv,Kw,Kx,Ky,Kz,J0,J1,J2,J3,J4,J5,J6,J7,J8,J9,Ja,Jb,Jc,Jd,Je,Jf,Jg,Jh,Ji,Jj,Jk,Jl,Jm,Jn,Jo,Jp,Jq,Jr,Js,Jt,Ju,Jv,Jw,Jx,Jy,Jz,Y0,Y1,Y2,Y3,Y4,Y5,Y6,Y7,Y8,Y9,Ya,Yb,Yc,Yd,Ye,Yf,Yg,Yh,Yi,Yj,Yk,Yl,Ym,Yn,Yo,Yp,Yq,Yr,Ys,Yt,Yu,Yv,Yw,Yx,Yy,Yz,Z0,Z1,Z2,Z3,Z4,Z5,Z6,Z7,Z8,Z9,Za,Zb,Zc,Zd,Ze,Zf,Zg,Zh,Zi,Zj,Zk,Zl,Zm,Zn,Zo,Zp,Zq,Zr,Zs,Zt,Zu,Zv,Zw,Zx,Zy,Zz,K0q,K1q,K2q,K3q,K4q,K5q,K6q,K7q,K8q,K9q,Kaq,Kbq,Kcq,Kdq,Keq,Kfq,Kgq,Khq,Kiq,Kjq,Kkq,Klq,Kmq,Knq,Koq,Kpq,Kqq,Krq,Ksq,Ktq,Kuq,Kvq,Kwq,Kxq,Kyq,Kzq,J0q,J1q,J2q,J3q,J4q,J5q,J6q,J7q,J8q,J9q,Jaq,Jbq,Jcq,Jdq,Jeq,Jfq,Jgq,Jhq,Jiq,Jjq,Jkq,Jlq,Jmq,Jnq,Joq,Jpq,Jqq,Jrq,Jsq,Jtq,Juq,Jvq] H fun v _=>v = .bool true:=by
 intro K1 K2 K6 K7 K8 K9 Ka Kb Kc Kd Ke Kf Kg Kh Ki Kj Kk Kl Km Kn Ko Kp Kq Kr Ks Kt Ku Kv Kw Kx Ky Kz J0 J1 J2 J3 J4 J5 J6 J7 J8 J9 Ja Jb Jc Jd Je Jf Jg Jh Ji Jj Jk Jl Jm Jn Jo Jp Jq Jr Js Jt Ju Jv Jw Jx Jy Jz Y0 Y1 Y2 Y3 Y4 Y5 Y6 Y7 Y8 Y9 Ya Yb Yc Yd Ye Yf Yg Yh Yi Yj Yk Yl Ym Yn Yo Yp Yq Yr Ys Yt Yu Yv Yw Yx Yy Yz Z0 Z1 Z2 Z3 Z4 Z5 Z6 Z7 Z8 Z9 Za Zb Zc Zd Ze Zf Zg Zh Zi Zj Zk Zl Zm Zn Zo Zp Zq Zr Zs Zt Zu Zv Zw Zx Zy Zz K0q K1q K2q K3q K4q K5q K6q K7q K8q K9q Kaq Kbq Kcq Kdq Keq Kfq Kgq Khq Kiq Kjq Kkq Klq Kmq Knq Koq Kpq Kqq Krq Ksq Ktq Kuq Kvq Kwq Kxq Kyq Kzq J0q J1q J2q J3q J4q J5q J6q J7q J8q J9q Jaq Jbq Jcq Jdq Jeq Jfq Jgq Jhq Jiq Jjq Jkq Jlq Jmq Jnq Joq Jpq Jqq Jrq Jsq Jtq Juq Jvq
 have lX:=blk?_lt b0
 obtain ⟨pa,pc,hs⟩:=hpH.sl.shape
 obtain ⟨v,H1,e1,cd1,k1,l1⟩:=G48 (Qam hpH) (by omega) w hh o ⟨x1,x2,x3,x4,x5⟩ (Gx6 (by omega))
 obtain ⟨f1,f2⟩:=Gcl (xs:=xs) (w:=w) (hh:=hh) (o:=o) (m:=⟨x1,x2,x3,x4,x5⟩)
 simp only [MD.val] at e1
 have b01 : blk? H1 X = some ⟨false,[.int .i64 w,.int .i64 hh,.int .i64 o,.bool x1,.bool x2,.bool x3,.bool x4,.bool x5,.int .i64 a,.int .i64 b,.int .i64 wt,.int .i64 s]⟩:=by rw [k1 _ lX]; exact b0
 generalize hS : wt * sqT xs xs.length = sm at *
 rw [← hT4,show tlC 4 B8 = .seq (Gau 4 B8) (.seq (Gau 5 B8) (tlC 6 B8)) from rfl]
 generalize hT6 : tlC 6 B8 = tl6
 simp only [Gau,tlC,Gd5,B8]
 by_cases h0 : (Gal xs w hh o ⟨x1,x2,x3,x4,x5⟩).1 = 0
 case neg =>
  have h0' : ((Gal xs w hh o ⟨x1,x2,x3,x4,x5⟩).1 != 0) = true:=by simpa using h0
  obtain ⟨p1,d1,rfl,P1,D1,_,_⟩:=cd1.ex
  generalize ((Gal xs w hh o ⟨x1,x2,x3,x4,x5⟩).2.pl : Int) = n3 at e1
  simp [b0,e1,blk?_push_eq,h0',Gk7,G2c]
 have h0' : ((Gal xs w hh o ⟨x1,x2,x3,x4,x5⟩).1 != 0) = false:=by simpa using h0
 obtain ⟨rs,dd,hcur,lr,ld,hall,hd0,hdn,hr0⟩:=Qbb (wt:=wt) h0 hw hx
 rw [hS] at hd0
 obtain ⟨hs0,hpl60,hpl,hps,hv,hdg,hdl⟩:=f2 h0
 have hplen : (Gal xs w hh o ⟨x1,x2,x3,x4,x5⟩).2.ps.length≤178:=by omega
 have ci:=cd1.ci (fun x hx=>by have:=Gon _ _ _ hv x hx; omega) hdg
 rw [hpl] at ci
 rw [h0] at e1
 obtain ⟨p1,d1,rfl,P1,D1,np,nd⟩:=ci.ex
 obtain ⟨pa1,pc1,hp1⟩:=P1.sl.shape
 rw [List.length_map] at hp1
 generalize hA : H1++[some (⟨false,[.int .i64 (Gab xs : Nat),p1,d1]⟩ : Blk)] = A
 have lA : A.length = H1.length + 1:=by rw [← hA]; simp
 have kA : ∀ id,id < H1.length→blk? A id = blk? H1 id:=fun id hid=>by rw [← hA]; exact blk?_push_lt hid
 have b0A : blk? A X = some ⟨false,[.int .i64 w,.int .i64 hh,.int .i64 o,.bool x1,.bool x2,.bool x3,.bool x4,.bool x5,.int .i64 a,.int .i64 b,.int .i64 wt,.int .i64 s]⟩:=by rw [kA _ (by omega)]; exact b01
 have bCA : blk? A H1.length = some ⟨false,[.int .i64 (Gab xs : Nat),p1,d1]⟩:=by rw [← hA]; exact blk?_push_eq
 generalize hS1 : A.set X (some ⟨false,[.int .i64 w,.int .i64 hh,.int .i64 o,.bool x1,.bool x2,.bool x3,.bool x4,.bool x5,.int .i64 1,.int .i64 b,.int .i64 wt,.int .i64 s]⟩) = A1
 have q1 : blk? A1 X = some ⟨false,[.int .i64 w,.int .i64 hh,.int .i64 o,.bool x1,.bool x2,.bool x3,.bool x4,.bool x5,.int .i64 1,.int .i64 b,.int .i64 wt,.int .i64 s]⟩:=by rw [← hS1]; exact blk?_set_eq (by omega)
 have z1 : A1.length = A.length:=by rw [← hS1]; simp
 have k11 : ∀ id,id ≠ X→blk? A1 id = blk? A id:=fun id hid=>by rw [← hS1]; exact blk?_set_ne (by omega)
 generalize hS2 : A1.set X (some ⟨false,[.int .i64 w,.int .i64 hh,.int .i64 o,.bool x1,.bool x2,.bool x3,.bool x4,.bool x5,.int .i64 1,.int .i64 16,.int .i64 wt,.int .i64 s]⟩) = A2
 have q2 : blk? A2 X = some ⟨false,[.int .i64 w,.int .i64 hh,.int .i64 o,.bool x1,.bool x2,.bool x3,.bool x4,.bool x5,.int .i64 1,.int .i64 16,.int .i64 wt,.int .i64 s]⟩:=by rw [← hS2]; exact blk?_set_eq (by omega)
 have z2 : A2.length = A.length:=by rw [← hS2]; simp [z1]
 have k12 : ∀ id,id ≠ X→blk? A2 id = blk? A id:=fun id hid=>by rw [← hS2,blk?_set_ne (by omega)]; exact k11 id hid
 generalize hS3 : A2.set X (some ⟨false,[.int .i64 w,.int .i64 hh,.int .i64 o,.bool x1,.bool x2,.bool x3,.bool x4,.bool x5,.int .i64 1,.int .i64 16,.int .i64 wt,.int .i64 0]⟩) = A3
 have q3 : blk? A3 X = some ⟨false,[.int .i64 w,.int .i64 hh,.int .i64 o,.bool x1,.bool x2,.bool x3,.bool x4,.bool x5,.int .i64 1,.int .i64 16,.int .i64 wt,.int .i64 0]⟩:=by rw [← hS3]; exact blk?_set_eq (by omega)
 have z3 : A3.length = A.length:=by rw [← hS3]; simp [z2]
 have k13 : ∀ id,id ≠ X→blk? A3 id = blk? A id:=fun id hid=>by rw [← hS3,blk?_set_ne (by omega)]; exact k12 id hid
 have bC3 : blk? A3 H1.length = some ⟨false,[.int .i64 (Gab xs : Nat),p1,d1]⟩:=by rw [k13 _ (by omega)]; exact bCA
 have hnX : ∀ {k : IntKind} {v : Value} {l : List Int},Rk k H1 v l→(sid v ≠ some X)→Rk k A3 v l:=fun {k v l} r hne=>r.keep (by omega) fun id hid hsd=>by rw [k13 id (fun e=>hne (by rw [← e]; exact hsd)),kA id hid]
 have P3:=hnX P1 (fun e=>by have:=np X e; omega)
 have D3:=hnX D1 (fun e=>by have:=nd X e; omega)
 have hp3:=hnX (hpH.keep l1 fun id hid _=>k1 id hid) (fun e=>hsX e)
 obtain ⟨v5,y5,H5,e5,V5⟩:=G3g (pl:=(Gab xs : Nat)) (w:=w) (hh:=hh) (o:=o) (x1:=x1) (x2:=x2) (x3:=x3) (x4:=x4) (x5:=x5) (a:=1) (b:=16) (wt:=wt) (s:=0) P3 D3 hp3 hdg (by rw [List.length_map]; omega) (by omega)
 rw [hcur] at e5 V5
 have k5:=V5.low
 have l5:=V5.len
 have o1:=V5.o1
 have o2:=V5.o2
 simp only at e5 o1 o2
 obtain ⟨ir,rfl,hbr⟩:=o1.ne_nil (by omega)
 obtain ⟨jd,rfl,hbd⟩:=o2.ne_nil (by omega)
 generalize hH6 : H5++[some (⟨false,[.slice (some ⟨ir,0,none⟩) rs.length 1,.slice (some ⟨jd,0,none⟩) dd.length 1]⟩ : Blk)] = H6
 have l6 : H6.length = H5.length + 1:=by rw [← hH6]; simp
 have k6 : ∀ id,id < H5.length→blk? H6 id = blk? H5 id:=fun id hid=>by rw [← hH6]; exact blk?_push_lt hid
 have s6 : (H5++[some (⟨false,[.slice none 0 0,.slice none 0 0]⟩ : Blk)]).set H5.length (some ⟨false,[.slice (some ⟨ir,0,none⟩) rs.length 1,.slice (some ⟨jd,0,none⟩) dd.length 1]⟩) = H6:=by rw [Gou]; exact hH6
 have p6 : blk? (H5++[some (⟨false,[.slice none 0 0,.slice none 0 0]⟩ : Blk)]) H5.length = some ⟨false,[.slice none 0 0,.slice none 0 0]⟩:=blk?_push_eq
 have c6 : blk? H6 H5.length = some ⟨false,[.slice (some ⟨ir,0,none⟩) rs.length 1,.slice (some ⟨jd,0,none⟩) dd.length 1]⟩:=by rw [← hH6]; exact blk?_push_eq
 have bC6 : blk? H6 H1.length = some ⟨false,[.int .i64 (Gab xs : Nat),p1,d1]⟩:=by rw [k6 _ (by omega),k5 _ (by omega)]; exact bC3
 have P6 : Rk .i64 H6 p1 ((Gal xs w hh o ⟨x1,x2,x3,x4,x5⟩).2.ps.map Int.ofNat):=P3.keep (by omega) fun id hid _=>by rw [k6 id (by omega),k5 id hid]
 have hbr6 : blk? H6 ir = some ⟨false,Gcj rs⟩:=by rw [k6 _ (blk?_lt hbr)]; exact hbr
 have hbd6 : blk? H6 jd = some ⟨false,Gcj dd⟩:=by rw [k6 _ (blk?_lt hbd)]; exact hbd
 have g0 : (Gcj dd)[0]? = some (.int .i64 sm):=by
  rw [Gc1 (by omega)] at hd0
  unfold Gcj; rw [List.getElem?_map,List.getElem?_eq_getElem (by omega),hd0]; rfl
 have g1 : (Gcj dd)[(Gal xs w hh o ⟨x1,x2,x3,x4,x5⟩).2.ps.length]? = some (.int .i64 0):=by
  rw [Gc1 (by omega)] at hdn
  unfold Gcj; rw [List.getElem?_map,List.getElem?_eq_getElem (by omega),hdn]; rfl
 have g2 : (Gcj rs)[0]? = some (.int .i64 0):=by
  rw [Gc1 (by omega)] at hr0
  unfold Gcj; rw [List.getElem?_map,List.getElem?_eq_getElem (by omega),hr0]; rfl
 have t0 : 0 < (Gcj dd).length:=by rw [G2d]; omega
 have t1 : (Gal xs w hh o ⟨x1,x2,x3,x4,x5⟩).2.ps.length < (Gcj dd).length:=by rw [G2d]; omega
 have t2 : 0 < (Gcj rs).length:=by rw [G2d]; omega
 have g0':=Ge6 g0
 have g1':=Ge6 g1
 have g2':=Ge6 g2
 rw [lr,ld] at c6 s6 e5
 have hL:=fun K0 K1 K2 K3 K5 K6 K7 K9 Kb Ke Kf Kg Kh Ki Kj Kk Kl Km Kn Ko Kp Kq Kr Ks Kt Ku Kv Kw Kx Ky Kz J0 J1 J2 J3 J4 J5 J6 J7 J8 J9 Ja Jb Jc Jd Je Jf Jg Jh Ji Jj Jk Jl Jm Jn Jo Jp Jq Jr Js Jt Ju Jv Jw Jx Jy Jz Y0 Y1 Y2 Y3 Y4 Y5 Y6 Y7 Y8 Y9 Ya Yb Yc Yd Ye Yf Yg Yh Yi Yj Yk Yl Ym Yn Yo Yp Yq Yr Ys Yt Yu Yv Yw Yx Yy Yz Z0 Z1 Z2 Z3 Z4 Z5 Z6 Z7 Z8 Z9 Za Zb Zc Zd Ze Zf Zg Zh Zi Zj Zk Zl Zm Zn Zo Zp Zq Zr Zs Zt Zu Zv Zw Zx Zy Zz K0q K1q K2q K3q K4q K5q K6q K7q K8q K9q Kaq Kbq Kcq Kdq Keq Kfq Kgq Khq Kiq Kjq Kkq Klq Kmq Knq Koq Kpq Kqq Krq Ksq Ktq Kuq Kvq Kwq Kxq Kyq Kzq J0q J1q J2q J3q J4q J5q J6q J7q J8q J9q Jaq Jbq Jcq Jdq Jeq Jfq Jgq Jhq Jiq Jjq Jkq Jlq Jmq Jnq Joq Jpq Jqq Jrq Jsq Jtq Juq Jvq=>G0h (R:=fun v _=>v = .bool true) (K:=[.code (tlC 11 B8)]) (O:=H5.length) (rs:=rs) (dd:=dd) bC6 P6 (by rw [List.length_map]; exact c6) hbr6 hbd6 (by rw [List.length_map]; exact lr) (by rw [List.length_map]; exact ld) (by rw [List.length_map]; omega)
  (fun i hi=>by rw [List.length_map] at hi; exact hall i hi)
  (fun K0 K1 K2 K3 K5 K6 K7 K8 K9 Ka Kb Kc Kd Ke Kf Kg Kh Ki Kj Kk Kl Km Kn Ko Kp Kq Kr Ks Kt Ku Kv Kw Kx Ky Kz J0 J1 J2 J3 J4 J5 J6 J7 J8 J9 Ja Jb Jc Jd Je Jf Jg Jh Ji Jj Jk Jl Jm Jn Jo Jp Jq Jr Js Jt Ju Jv Jw Jx Jy Jz Y0 Y1 Y2 Y3 Y4 Y5 Y6 Y7 Y8 Y9 Ya Yb Yc Yd Ye Yf Yg Yh Yi Yj Yk Yl Ym Yn Yo Yp Yq Yr Ys Yt Yu Yv Yw Yx Yy Yz Z0 Z1 Z2 Z3 Z4 Z5 Z6 Z7 Z8 Z9 Za Zb Zc Zd Ze Zf Zg Zh Zi Zj Zk Zl Zm Zn Zo Zp Zq Zr Zs Zt Zu Zv Zw Zx Zy Zz K0q K1q K2q K3q K4q K5q K6q K7q K8q K9q Kaq Kbq Kcq Kdq Keq Kfq Kgq Khq Kiq Kjq Kkq Klq Kmq Knq Koq Kpq Kqq Krq Ksq Ktq Kuq Kvq Kwq Kxq Kyq Kzq J0q J1q J2q J3q J4q J5q J6q J7q J8q J9q Jaq Jbq Jcq Jdq Jeq Jfq Jgq Jhq Jiq Jjq Jkq Jlq Jmq Jnq Joq Jpq Jqq Jrq Jsq Jtq Juq Jvq=>by
   simp only [Gau,tlC,Gd5,B8]
   simp [Gk7,G2c])
  (((Gal xs w hh o ⟨x1,x2,x3,x4,x5⟩).2.ps.map Int.ofNat).length + 1) 0 K0 K1 K2 K3 K5 K6 K7 K9 Kb Ke Kf Kg Kh Ki Kj Kk Kl Km Kn Ko Kp Kq Kr Ks Kt Ku Kv Kw Kx Ky Kz J0 J1 J2 J3 J4 J5 J6 J7 J8 J9 Ja Jb Jc Jd Je Jf Jg Jh Ji Jj Jk Jl Jm Jn Jo Jp Jq Jr Js Jt Ju Jv Jw Jx Jy Jz Y0 Y1 Y2 Y3 Y4 Y5 Y6 Y7 Y8 Y9 Ya Yb Yc Yd Ye Yf Yg Yh Yi Yj Yk Yl Ym Yn Yo Yp Yq Yr Ys Yt Yu Yv Yw Yx Yy Yz Z0 Z1 Z2 Z3 Z4 Z5 Z6 Z7 Z8 Z9 Za Zb Zc Zd Ze Zf Zg Zh Zi Zj Zk Zl Zm Zn Zo Zp Zq Zr Zs Zt Zu Zv Zw Zx Zy Zz K0q K1q K2q K3q K4q K5q K6q K7q K8q K9q Kaq Kbq Kcq Kdq Keq Kfq Kgq Khq Kiq Kjq Kkq Klq Kmq Knq Koq Kpq Kqq Krq Ksq Ktq Kuq Kvq Kwq Kxq Kyq Kzq J0q J1q J2q J3q J4q J5q J6q J7q J8q J9q Jaq Jbq Jcq Jdq Jeq Jfq Jgq Jhq Jiq Jjq Jkq Jlq Jmq Jnq Joq Jpq Jqq Jrq Jsq Jtq Juq Jvq (by omega)
 rw [List.length_map] at hL
 have hwn : IntKind.i64.wrap (((Gal xs w hh o ⟨x1,x2,x3,x4,x5⟩).2.ps.length : Int) + 1) = ((Gal xs w hh o ⟨x1,x2,x3,x4,x5⟩).2.ps.length : Int) + 1:=Gan (by omega) (by omega)
 have hlt : ((Gal xs w hh o ⟨x1,x2,x3,x4,x5⟩).2.ps.length : Int) < ((Gal xs w hh o ⟨x1,x2,x3,x4,x5⟩).2.ps.length : Int) + 1:=by omega
 have hlt0 : (0 : Int) < ((Gal xs w hh o ⟨x1,x2,x3,x4,x5⟩).2.ps.length : Int) + 1:=by omega
 simp only [Int.cast_ofNat_Int] at hL
 clear hall hdn hd0 hr0 hcur cd1 ci f1 f2 hv hdg P1 D1 P3 D3 P6 V5 hx
 generalize (Gal xs w hh o ⟨x1,x2,x3,x4,x5⟩).2.ps.length = n1 at *
 generalize ((Gab xs : Nat) : Int) = pl at *
 generalize Gcj dd = DD at *
 generalize Gcj rs = RR at *
 rw [hp1] at e1 hA bCA bC3 bC6 e5
 rw [← hT6,show tlC 6 B8 = .seq (Gau 6 B8) (.seq (Gau 7 B8) (.seq (Gau 8 B8) (.seq (Gau 9 B8) (.seq (Gau 10 B8) (tlC 11 B8))))) from rfl]
 generalize hT11 : tlC 11 B8 = tl11 at *
 simp only [Gau,tlC,Gd5,B8]
 simp (maxSteps:=2000000) [Gaa,Gah,b0,e1,blk?_push_eq,hA,b0A,hS1,q1,hS2,q2,hS3,q3,bC3,e5,p6,s6,c6,bC6,hbr6,hbd6,g0,g1,g2,g0',g1',g2',t0,t1,t2,hwn,hlt,hlt0]
 exact hL ..
theorem G6c {h : Gag} {sv : Value} {xs : List Int} {w hh o a b wt s : Int} {x1 x2 x3 x4 x5 : Bool} (hp : Rk .i64 h sv xs) :
  Ret tab 8 [sv,.agg #[.int .i64 w,.int .i64 hh,.int .i64 o,.bool x1,.bool x2,.bool x3,.bool x4,.bool x5,.int .i64 a,.int .i64 b,.int .i64 wt,.int .i64 s]] h fun v _=>v = .bool true:=by
 obtain ⟨pa,pc,hs⟩:=hp.sl.shape
 generalize hH : h++[some (⟨false,[.int .i64 w,.int .i64 hh,.int .i64 o,.bool x1,.bool x2,.bool x3,.bool x4,.bool x5,.int .i64 a,.int .i64 b,.int .i64 wt,.int .i64 s]⟩ : Blk)] = H
 have b0 : blk? H h.length = some ⟨false,[.int .i64 w,.int .i64 hh,.int .i64 o,.bool x1,.bool x2,.bool x3,.bool x4,.bool x5,.int .i64 a,.int .i64 b,.int .i64 wt,.int .i64 s]⟩:=by rw [← hH]; exact blk?_push_eq
 have lH : H.length = h.length + 1:=by rw [← hH]; simp
 have hpH : Rk .i64 H sv xs:=by rw [← hH]; exact hp.push _
 have hsv : Sim.isVar sv = true:=by rw [hs]; rfl
 rw [enter8,show B8 = .seq (Gau 0 B8) (.seq (Gau 1 B8) (.seq (Gau 2 B8) (.seq (Gau 3 B8) (tlC 4 B8)))) from rfl]
 generalize hT4 : tlC 4 B8 = tl4
 generalize hT2 : Gau 2 B8 = c2
 generalize hT3 : Gau 3 B8 = c3
 simp only [Gau,tlC,Gd5,B8]
 have hw64 : ∀ x y : Int,1≤x→x≤8→1≤y→y≤8→0≤x * y∧x * y≤64:=fun x y _ h2 _ h4=>Gbx (c:=8) (d:=8) (by omega) h2 (by omega) h4
 subst hs
 by_cases c1 : w < 1
 ·simp [Gaa,Gah,hH,b0,c1,Gk7,G2c]
 by_cases c2' : 8 < w
 ·simp [Gaa,Gah,hH,b0,c1,c2',Gk7,G2c]
 by_cases c3' : hh < 1
 ·simp [Gaa,Gah,hH,b0,c1,c2',c3',Gk7,G2c]
 by_cases c4 : 8 < hh
 ·simp [Gaa,Gah,hH,b0,c1,c2',c3',c4,Gk7,G2c]
 obtain ⟨m1,m2⟩:=hw64 w hh (by omega) (by omega) (by omega) (by omega)
 have hwr : IntKind.i64.wrap (w * hh) = w * hh:=Gan (by omega) (by omega)
 by_cases c5 : (xs.length : Int) = w * hh
 case neg =>
  have c5' : ((xs.length : Int) != w * hh) = true:=by simpa using c5
  simp [Gaa,Gah,hH,b0,c1,c2',c3',c4,hwr,c5',Gk7,G2c]
 have c5' : ((xs.length : Int) != w * hh) = false:=by simpa using c5
 by_cases c6 : wt < 0
 ·simp [Gaa,Gah,hH,b0,c1,c2',c3',c4,hwr,c5',c6,Gk7,G2c]
 by_cases c7 : 16 < wt
 ·simp [Gaa,Gah,hH,b0,c1,c2',c3',c4,hwr,c5',c6,c7,Gk7,G2c]
 have hxl : xs.length≤64:=by omega
 have hL:=fun K1 K2 K7 K8 K9 Ka Kb Kc Kd Ke Kf Kg Kh Ki Kj Kk Kl Km Kn Ko Kp Kq Kr Ks Kt Ku Kv Kw Kx Ky Kz J0 J1 J2 J3 J4 J5 J6 J7 J8 J9 Ja Jb Jc Jd Je Jf Jg Jh Ji Jj Jk Jl Jm Jn Jo Jp Jq Jr Js Jt Ju Jv Jw Jx Jy Jz Y0 Y1 Y2 Y3 Y4 Y5 Y6 Y7 Y8 Y9 Ya Yb Yc Yd Ye Yf Yg Yh Yi Yj Yk Yl Ym Yn Yo Yp Yq Yr Ys Yt Yu Yv Yw Yx Yy Yz Z0 Z1 Z2 Z3 Z4 Z5 Z6 Z7 Z8 Z9 Za Zb Zc Zd Ze Zf Zg Zh Zi Zj Zk Zl Zm Zn Zo Zp Zq Zr Zs Zt Zu Zv Zw Zx Zy Zz K0q K1q K2q K3q K4q K5q K6q K7q K8q K9q Kaq Kbq Kcq Kdq Keq Kfq Kgq Khq Kiq Kjq Kkq Klq Kmq Knq Koq Kpq Kqq Krq Ksq Ktq Kuq Kvq Kwq Kxq Kyq Kzq J0q J1q J2q J3q J4q J5q J6q J7q J8q J9q Jaq Jbq Jcq Jdq Jeq Jfq Jgq Jhq Jiq Jjq Jkq Jlq Jmq Jnq Joq Jpq Jqq Jrq Jsq Jtq Juq Jvq=>G6d (R:=fun v _=>v = .bool true) (K:=[.code tl4]) hpH b0 ⟨by omega,by omega⟩ hxl rfl (fun hx K1 K2 K6 K7 K8 K9 Ka Kb Kc Kd Ke Kf Kg Kh Ki Kj Kk Kl Km Kn Ko Kp Kq Kr Ks Kt Ku Kv Kw Kx Ky Kz J0 J1 J2 J3 J4 J5 J6 J7 J8 J9 Ja Jb Jc Jd Je Jf Jg Jh Ji Jj Jk Jl Jm Jn Jo Jp Jq Jr Js Jt Ju Jv Jw Jx Jy Jz Y0 Y1 Y2 Y3 Y4 Y5 Y6 Y7 Y8 Y9 Ya Yb Yc Yd Ye Yf Yg Yh Yi Yj Yk Yl Ym Yn Yo Yp Yq Yr Ys Yt Yu Yv Yw Yx Yy Yz Z0 Z1 Z2 Z3 Z4 Z5 Z6 Z7 Z8 Z9 Za Zb Zc Zd Ze Zf Zg Zh Zi Zj Zk Zl Zm Zn Zo Zp Zq Zr Zs Zt Zu Zv Zw Zx Zy Zz K0q K1q K2q K3q K4q K5q K6q K7q K8q K9q Kaq Kbq Kcq Kdq Keq Kfq Kgq Khq Kiq Kjq Kkq Klq Kmq Knq Koq Kpq Kqq Krq Ksq Ktq Kuq Kvq Kwq Kxq Kyq Kzq J0q J1q J2q J3q J4q J5q J6q J7q J8q J9q Jaq Jbq Jcq Jdq Jeq Jfq Jgq Jhq Jiq Jjq Jkq Jlq Jmq Jnq Joq Jpq Jqq Jrq Jsq Jtq Juq Jvq=>G0b hpH (fun e=>by have:=hp.lt e; omega) b0 ⟨by omega,by omega⟩ hxl hx hT4 ..) xs.length 0 K1 K2 K7 K8 K9 Ka Kb Kc Kd Ke Kf Kg Kh Ki Kj Kk Kl Km Kn Ko Kp Kq Kr Ks Kt Ku Kv Kw Kx Ky Kz J0 J1 J2 J3 J4 J5 J6 J7 J8 J9 Ja Jb Jc Jd Je Jf Jg Jh Ji Jj Jk Jl Jm Jn Jo Jp Jq Jr Js Jt Ju Jv Jw Jx Jy Jz Y0 Y1 Y2 Y3 Y4 Y5 Y6 Y7 Y8 Y9 Ya Yb Yc Yd Ye Yf Yg Yh Yi Yj Yk Yl Ym Yn Yo Yp Yq Yr Ys Yt Yu Yv Yw Yx Yy Yz Z0 Z1 Z2 Z3 Z4 Z5 Z6 Z7 Z8 Z9 Za Zb Zc Zd Ze Zf Zg Zh Zi Zj Zk Zl Zm Zn Zo Zp Zq Zr Zs Zt Zu Zv Zw Zx Zy Zz K0q K1q K2q K3q K4q K5q K6q K7q K8q K9q Kaq Kbq Kcq Kdq Keq Kfq Kgq Khq Kiq Kjq Kkq Klq Kmq Knq Koq Kpq Kqq Krq Ksq Ktq Kuq Kvq Kwq Kxq Kyq Kzq J0q J1q J2q J3q J4q J5q J6q J7q J8q J9q Jaq Jbq Jcq Jdq Jeq Jfq Jgq Jhq Jiq Jjq Jkq Jlq Jmq Jnq Joq Jpq Jqq Jrq Jsq Jtq Juq Jvq (by omega) (fun k hk=>by omega)
 have hq0 : wt * sqT xs 0 = 0:=by rw [sqT,Int.mul_zero]
 rw [hq0] at hL
 simp only [Int.cast_ofNat_Int] at hL
 simp [Gaa,Gah,hH,b0,c1,c2',c3',c4,hwr,c5',c6,c7]
 rw [← hT2,← hT3]
 simp only [Gau,tlC,Gd5,B8]
 simp
 exact hL ..
end
end Go.Proofs.YtjpjohchdfoeaaaGreat
