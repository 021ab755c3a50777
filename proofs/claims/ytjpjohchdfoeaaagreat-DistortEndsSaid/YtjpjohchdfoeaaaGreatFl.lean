/-
  The block decoder's check of its arguments.
  The source that gives out symbols.
  Values: the passes.
  Values: what it returns.
  The block decoder: the contracts of Decode and Sound.
  How much Decode answers.
  The curve of a block, plain.
  The curve of a block, followed: the distortion after n passes, the program's.
  The curve of a block, followed: the distortion after n passes, the program's contract.
  The curve of a block, followed: the points, one after the other.
  The curve of a block, followed: the program's contract.
  The reference's arithmetic encoder, followed: a bit is encoded.
  What the block encoder answers, plain: the ends of the passes ascend, the bytes are bytes.
  The reference's arithmetic encoder, followed: the end of a codeword.
  The reference's arithmetic encoder, followed: the next multiple.
  The reference's arithmetic encoder, followed: a new one, its size, a reset, the end.
  The reference's arithmetic encoder, followed: begin, initial, a new one, reset, size, terminate.
  The reference's arithmetic decoder follows the plain one.
  The reference's reader of raw bits, followed.
  What a pass of the decoder asks for: the contexts. Plain.
  The cleanup pass of the decoder's reference, plain: the same as the program's.
  The decoder's reference: what its passes read, questions, signs.
  The decoder's reference: significance, refinement.
  The decoder's reference: the cleanup pass.
  The decoder's reference: Run.
  The reference's source: some bits, and 0 beyond them; what was asked for is noted.
  The reference's source of bits, followed: a decoder and a reader.
  The reference's arithmetic encoder, followed: the end of a codeword.
  The reference's writer of raw bits, followed.
  The reference's writer of raw bits, followed: the end of a segment.
  The reference's division into segments, followed.
  The reference's segment, followed: the symbols of a pass.
  The reference's segment, followed: its passes.
  The reference's segment, followed.
  The reference's decoding, followed: the passes of a segment.
  The reference's decoding, followed: the segments, and Symbols.
  A pass of the reference with the bits of symbols.
  A pass of the reference with the bits of symbols: what was asked for, compared.
  A pass of the reference with the bits of symbols: perform.
  Values of the reference: the passes.
  Values of the reference.
  Values of the reference comes to what the program's does.
  The reference's block decoder: the contract of Decode.
  The curve of a block, followed: the distortion after n passes, the reference's contract.
  The curve of a block, followed: the reference's contract.
  Whether two lists are the same (law 18's own).
  Whether two lists of integers are the same (the reference's).
  The examples of the chapter hold.
  DistortCurves: the walk.
  The shape of the passes: the plain law.
  Each coefficient's bit is coded once in a plane: the plain law.
  Without the lowest planes: the plain law.
  The decoder's passes undo the encoder's: the plain law.
  The passes of a block, encoded and decoded: the plain laws.
  Values, from the symbols of a block: the plain laws.
  A segment is read back: the source follows the sink. Plain.
-/
import Derived.Test.YtjpjohchdfoeaaaGreatTrn
import Derived.Test.YtjpjohchdfoeaaaGreatSrc
import Derived.Test.YtjpjohchdfoeaaaGreatSk
import Derived.Test.YtjpjohchdfoeaaaGreatTab
import Derived.Test.YtjpjohchdfoeaaaGreatSimZ
namespace Go.Proofs.YtjpjohchdfoeaaaGreat
open Go Go.Sim
set_option linter.unusedSimpArgs false
set_option linter.unusedVariables false
set_option maxHeartbeats 4000000
set_option maxRecDepth 10000
def Gcx (pl : Int) (ps ds : List Int) (n w hh o : Int) : Int :=
 if Gex pl ps ds ≠ 0 then Gex pl ps ds
 else if n < 0∨(ps.length : Int) < n∨w < 1∨64 < w∨hh < 1∨64 < hh then 2
 else if o < 0∨3 < o then 3 else 0
section
variable {h : Gag} {pv dv : Value} {pl : Int} {ps ds : List Int} {m : MD}
theorem G8q (hp : Rk .i64 h pv ps) (hd : Rk .u8 h dv ds) (hl : ps.length < 1000000) (hdl : ds.length < 1000000000) (n w hh o : Int) :
  Grb 26 [.agg #[.int .i64 pl,pv,dv],.int .i64 n,.int .i64 w,.int .i64 hh,.int .i64 o,m.val] h (.int .i64 (Gcx pl ps ds n w hh o)):=by
 refine Grb.mk fun R0 hR=>?_
 generalize hH : h++[some (⟨false,[.int .i64 pl,pv,dv]⟩ : Blk),some ⟨false,[.bool m.byp,.bool m.res,.bool m.rst,.bool m.cz,.bool m.sy]⟩] = H
 have lH : H.length = h.length + 2:=by rw [← hH]; simp
 have b0 : blk? H h.length = some ⟨false,[.int .i64 pl,pv,dv]⟩:=by rw [← hH,Gbe]; rfl
 have b1 : blk? H (h.length + 1) = some ⟨false,[.bool m.byp,.bool m.res,.bool m.rst,.bool m.cz,.bool m.sy]⟩:=by rw [← hH,Ga0]; rfl
 have hpH : Rk .i64 H pv ps:=by rw [← hH]; exact hp.push _
 have hdH : Rk .u8 H dv ds:=by rw [← hH]; exact hd.push _
 obtain ⟨H1,e1,k1,l1⟩:=Qah (m:=m) (pl:=pl) hpH hdH hl hdl
 have b01 : blk? H1 h.length = some ⟨false,[.int .i64 pl,pv,dv]⟩:=by rw [k1 _ (by omega)]; exact b0
 have hR':=hR H1 (fun id hid=>by rw [k1 id (by omega),← hH]; exact Gbf hid) (by omega)
 clear hR
 obtain ⟨pa,pc,hpv⟩:=hp.sl.shape
 simp only [MD.val] at e1
 unfold Gcx at hR'
 rw [G9c,B26]
 by_cases v0 : Gex pl ps ds = 0
 case neg =>
  have v0' : (Gex pl ps ds != 0) = true:=by simpa using v0
  rw [if_pos v0] at hR'
  simp [Gaa,Gah,MD.val,hH,b0,b1,e1,v0',Gly]
  exact hR'
 have v0' : (Gex pl ps ds != 0) = false:=by simpa using v0
 rw [if_neg (by simp [v0])] at hR'
 rw [hpv] at hH b0 b01 e1
 rw [hpv]
 by_cases c1 : n < 0
 ·rw [if_pos (.inl c1)] at hR'
  simp [Gaa,Gah,MD.val,hH,b0,b1,e1,v0',c1,Gly]
  exact hR'
 by_cases c2 : (ps.length : Int) < n
 ·rw [if_pos (.inr (.inl c2))] at hR'
  simp [Gaa,Gah,MD.val,hH,b0,b1,e1,v0',b01,c1,c2,Gly]
  exact hR'
 by_cases c3 : w < 1
 ·rw [if_pos (.inr (.inr (.inl c3)))] at hR'
  simp [Gaa,Gah,MD.val,hH,b0,b1,e1,v0',b01,c1,c2,c3,Gly]
  exact hR'
 by_cases c4 : 64 < w
 ·rw [if_pos (.inr (.inr (.inr (.inl c4))))] at hR'
  simp [Gaa,Gah,MD.val,hH,b0,b1,e1,v0',b01,c1,c2,c3,c4,Gly]
  exact hR'
 by_cases c5 : hh < 1
 ·rw [if_pos (.inr (.inr (.inr (.inr (.inl c5)))))] at hR'
  simp [Gaa,Gah,MD.val,hH,b0,b1,e1,v0',b01,c1,c2,c3,c4,c5,Gly]
  exact hR'
 by_cases c6 : 64 < hh
 ·rw [if_pos (.inr (.inr (.inr (.inr (.inr c6)))))] at hR'
  simp [Gaa,Gah,MD.val,hH,b0,b1,e1,v0',b01,c1,c2,c3,c4,c5,c6,Gly]
  exact hR'
 rw [if_neg (by omega)] at hR'
 by_cases c7 : o < 0
 ·rw [if_pos (.inl c7)] at hR'
  simp [Gaa,Gah,MD.val,hH,b0,b1,e1,v0',b01,c1,c2,c3,c4,c5,c6,c7,Gly]
  exact hR'
 by_cases c8 : 3 < o
 ·rw [if_pos (.inr c8)] at hR'
  simp [Gaa,Gah,MD.val,hH,b0,b1,e1,v0',b01,c1,c2,c3,c4,c5,c6,c7,c8,Gly]
  exact hR'
 rw [if_neg (by omega)] at hR'
 simp [Gaa,Gah,MD.val,hH,b0,b1,e1,v0',b01,c1,c2,c3,c4,c5,c6,c7,c8,Gly]
 exact hR'
end
theorem Gqh : ∀ (ps : List Int) (l r : Int),vgo ps l = some r→∀ a,a≤ps.length→vgo (ps.take a) l = some (if a = 0 then l else ps.getD (a - 1) 0)
 | ps,l,r,hv,0,_=>by simp [vgo]
 | [],l,r,hv,a + 1,h=>by simp at h
 | x :: xs,l,r,hv,a + 1,h=>by
  unfold vgo at hv
  split at hv
  ·cases hv
  ·rename_i hx
   have:=Gqh xs x r hv a (by simpa using h)
   rw [List.take_succ_cons,vgo,if_neg hx,this]
   cases a with
   | zero=>simp
   | succ a=>simp
theorem G3d {pl : Int} {ps ds : List Int} (hv : Gex pl ps ds = 0) : (∀ x ∈ ps,0≤x)∧∀ i j,i≤j→j≤ps.length→zE ps i≤zE ps j∧zE ps j≤ds.length:=by
 obtain ⟨_,_,_,hg,_⟩:=Ge7 hv
 refine ⟨fun x hx=>?_,fun i j hij hj=>?_⟩
 ·obtain ⟨k,hk,rfl⟩:=List.getElem_of_mem hx
  have:=Gkg ps 0 _ hg k hk
  simpa [hk] using this.1
 ·unfold zE
  by_cases j0 : j = 0
  ·have : i = 0:=by omega
   subst this j0; simp
  ·have hb:=Gkg ps 0 _ hg (j - 1) (by omega)
   rw [if_neg j0]
   refine ⟨?_,by omega⟩
   by_cases i0 : i = 0
   ·rw [if_pos i0]; omega
   ·rw [if_neg i0]
    have h1:=Gqh ps 0 _ hg j hj
    rw [if_neg j0] at h1
    have h2:=Gkg _ 0 _ h1 (i - 1) (by rw [List.length_take]; omega)
    have e : (ps.take j).getD (i - 1) 0 = ps.getD (i - 1) 0:=by rw [List.getD_eq_getElem?_getD,List.getD_eq_getElem?_getD,List.getElem?_take,if_pos (by omega)]
    rw [e] at h2
    omega
theorem Sl.tail {h : Gag} {s : Value} {l : List (Int × Int)} {p : Int × Int} (hs : Sl h 2 s (l.length + 1) (Gje (p :: l))) :
  ∃ id off b,s = .slice (some ⟨id,off,none⟩) (l.length + 1) 2∧blk? h id = some b∧b.cells[off]? = some (.int .i64 p.1)∧b.cells[off + 1]? = some (.int .i64 p.2)∧Sl h 2 (.slice (some ⟨id,off + 2,none⟩) l.length 2) l.length (Gje l):=by
 obtain ⟨id,off,b,e,hb,hc⟩:=hs.get (i:=0) (by omega)
 have c0:=hc 0 (by omega)
 have c1:=hc 1 (by omega)
 simp [Gje] at c0 c1
 refine ⟨id,off,b,e,hb,c0,c1,by rw [Gol],.inr ⟨id,off + 2,rfl,?_⟩⟩
 obtain ⟨hl,hs⟩:=hs
 rcases hs with ⟨rfl,h0⟩ | ⟨id',off',e',h0 | ⟨b',hb',hle,hct⟩⟩
 ·cases e
 ·omega
 ·rw [e] at e'
  injection e' with e1 e2 e3
  injection e1 with e1
  injection e1 with e1 e4
  subst e1 e4
  rw [hb] at hb'
  injection hb' with hb'
  subst hb'
  refine .inr ⟨b,hb,by omega,?_⟩
  have h2:=congrArg (List.drop 2) hct
  rw [List.drop_take,List.drop_drop] at h2
  simp [Gje] at h2
  rw [← h2]
  congr 1
  omega
structure Qb1 (c sb : Nat) (h : Gag) (sv : Value) (s : List (Int × Int) × Bool) : Prop where
 blk : blk? h sb = some ⟨false,[sv,.bool s.2]⟩
 sl : Sl h 2 sv s.1.length (Gje s.1)
 far : ∀ id,sid sv = some id→id < h.length∧id ≠ c∧id ≠ sb
 ne : sb ≠ c
theorem next_d {c sb : Nat} {h : Gag} {sv : Value} {s : List (Int × Int) × Bool} (hr : Qb1 c sb h sv s) (x : Int) :
  ∃ sv' h' v,(∀ R,Ret tab 63 [ptr sb,.int .i64 x] h R = R (.int .i64 v) h')∧(v != 0) = (Giz s x).1∧Qb1 c sb h' sv' (Giz s x).2∧Stu h h' (fun id=>id = sb) (fun id=>id = sb):=by
 obtain ⟨l,bad⟩:=s
 obtain ⟨hb,hsl,hf,hne⟩:=hr
 simp only at hb hsl
 have hls:=blk?_lt hb
 have hset : ∀ sv' bad',Stu h (h.set sb (some ⟨false,[sv',.bool bad']⟩)) (fun id=>id = sb) (fun id=>id = sb):=fun sv' bad'=>⟨by simp,fun id h1 h2=>blk?_set_ne (fun e=>h2 e.symm),fun id h=>.inl h⟩
 have hE : ∀ x : Blk,blk? (h.set sb (some x)) sb = some x:=fun x=>blk?_set_eq hls
 have hbad : Giz (l,bad) x = (false,(l,true))→Qb1 c sb (h.set sb (some ⟨false,[sv,.bool true]⟩)) sv (Giz (l,bad) x).2:=by
  intro e
  rw [e]
  refine ⟨hE _,hsl.of_sid fun id b hid hb=>?_,fun id hid=>by simpa using hf id hid,hne⟩
  rw [blk?_set_ne (fun e=>(hf id hid).2.2 e.symm)]; exact hb
 cases l with
 | nil =>
  obtain ⟨a,cc,hsh⟩:=hsl.shape
  have e : Giz ([],bad) x = (false,([],true)):=by cases bad <;> rfl
  refine ⟨sv,h.set sb (some ⟨false,[sv,.bool true]⟩),0,fun R=>?_,by rw [e]; rfl,hbad e,hset _ _⟩
  rw [Gkz,B63]
  subst hsh
  simp [Gaa,Gah,hb,hE,G14]
 | cons p l =>
  obtain ⟨id,off,b,rfl,hbk,c0,c1,htl⟩:=Sl.tail hsl
  have hfar:=hf id rfl
  obtain ⟨p1,p2⟩:=p
  simp only at c0 c1
  by_cases h1 : p1 = x
  ·subst h1
   by_cases h2 : p2 = 0∨p2 = 1
   ·-- a bit
    cases bad
    ·have e : Giz ((p1,p2) :: l,false) p1 = (p2 == 1,(l,false)):=by simp only [Giz]; rw [if_pos ⟨trivial,h2⟩]
     refine ⟨.slice (some ⟨id,off + 2,none⟩) l.length 2,h.set sb (some ⟨false,[.slice (some ⟨id,off + 2,none⟩) l.length 2,.bool false]⟩),p2,fun R=>?_,by rw [e]; rcases h2 with rfl | rfl <;> rfl,?_,hset _ _⟩
     ·rw [Gkz,B63]
      have hnl : ((l.length : Int) + 1 == 0) = false:=by simp; omega
      have hpos : (0 : Int) < (l.length : Int) + 1:=by omega
      have hsv : Gc8 2 (.slice (some ⟨id,off,none⟩) (l.length + 1) 2) (some (.int .i64 1)) none = some (.slice (some ⟨id,off + 2,none⟩) l.length 2):=by
       have hle : ((1 : Int)≤(l.length : Int) + 1):=by omega
       simp [Gc8,Gl5,bnd,hle]
      rcases h2 with rfl | rfl <;> simp [Gaa,Gah,hb,hbk,c0,c1,hnl,hpos,hsv,G14]
     ·rw [e]
      refine ⟨hE _,htl.of_sid fun id' b' hid hb'=>?_,fun id' hid=>?_,hne⟩
      ·simp [sid] at hid; subst hid
       rw [blk?_set_ne (fun e=>hfar.2.2 e.symm)]; exact hb'
      ·simp [sid] at hid; subst hid
       simpa using hfar
    ·have e : Giz ((p1,p2) :: l,true) p1 = (false,((p1,p2) :: l,true)):=rfl
     refine ⟨_,h,0,fun R=>?_,by rw [e]; rfl,by rw [e]; exact ⟨hb,hsl,hf,hne⟩,⟨Nat.le_refl _,fun _ _ _=>rfl,fun id h=>.inl h⟩⟩
     rw [Gkz,B63]
     have hnl : ((l.length : Int) + 1 == 0) = false:=by simp; omega
     have hpos : (0 : Int) < (l.length : Int) + 1:=by omega
     rcases h2 with rfl | rfl <;> simp [Gaa,Gah,hb,hbk,c0,c1,hnl,hpos,G14]
   ·have e : Giz ((p1,p2) :: l,bad) p1 = (false,((p1,p2) :: l,true)):=by
     cases bad
     ·simp only [Giz]; rw [if_neg (fun e=>h2 e.2)]
     ·rfl
    refine ⟨_,h.set sb (some ⟨false,[.slice (some ⟨id,off,none⟩) (l.length + 1) 2,.bool true]⟩),0,fun R=>?_,by rw [e]; rfl,hbad e,hset _ _⟩
    rw [Gkz,B63]
    have hnl : ((l.length : Int) + 1 == 0) = false:=by simp; omega
    have hpos : (0 : Int) < (l.length : Int) + 1:=by omega
    have g0 : (p2 != 0) = true:=by simp; omega
    have g1 : (p2 != 1) = true:=by simp; omega
    simp [Gaa,Gah,hb,hbk,hE,c0,c1,g0,g1,hnl,hpos,G14]
  ·have e : Giz ((p1,p2) :: l,bad) x = (false,((p1,p2) :: l,true)):=by
    cases bad
    ·simp only [Giz]; rw [if_neg (fun e=>h1 e.1)]
    ·rfl
   refine ⟨_,h.set sb (some ⟨false,[.slice (some ⟨id,off,none⟩) (l.length + 1) 2,.bool true]⟩),0,fun R=>?_,by rw [e]; rfl,hbad e,hset _ _⟩
   rw [Gkz,B63]
   have hnl : ((l.length : Int) + 1 == 0) = false:=by simp; omega
   have hpos : (0 : Int) < (l.length : Int) + 1:=by omega
   have g1 : (p1 != x) = true:=by simp; exact h1
   simp [Gaa,Gah,hb,hbk,hE,c0,c1,g1,hnl,hpos,G14]
def srcV (c sb : Nat) : Src c (Glx (.func (.func 63) #[ptr sb] #[])) where
 S:=List (Int × Int) × Bool
 T:=Value
 ask:=Giz
 rel:=Qb1 c sb
 own:=fun _ id=>id = sb
 size:=fun _=>0
 lt:=fun h id e=>by rw [e]; exact blk?_lt h.blk
 stable:=fun {h h' t s} hr hl hk=>⟨by rw [hk _ (blk?_lt hr.blk) hr.ne]; exact hr.blk,hr.sl.of_sid fun id b hid hb=>(by obtain ⟨f1,f2,f3⟩:=hr.far id hid; rw [hk id f1 f2]; exact hb),fun id hid=>(by obtain ⟨f1,f2,f3⟩:=hr.far id hid; exact ⟨by omega,f2,f3⟩),hr.ne⟩
 size_ask:=fun _ _=>by simp
 step:=fun {h t s} hr _ x=>by
  obtain ⟨sv',h',v,e,hv,hr',st⟩:=next_d hr x
  refine ⟨sv',h',v,fun R=>?_,hv,hr',st⟩
  unfold Glx
  rw [Gxa]
  exact e R
 c_own:=fun hr e=>hr.ne e.symm
structure PsI (h : Gag) (s : Value) (vs : List Value) (ls : List (List (Int × Int))) : Prop where
 sl : Sl h 1 s vs.length vs
 len : vs.length = ls.length
 each : ∀ i (h1 : i < vs.length) (h2 : i < ls.length),Sl h 2 vs[i] ls[i].length (Gje ls[i])
 lt : ∀ i (h1 : i < vs.length) id,sid vs[i] = some id→id < h.length
theorem PsI.keep {h h' : Gag} {s : Value} {vs : List Value} {ls : List (List (Int × Int))} (hp : PsI h s vs ls) (hl : h.length≤h'.length) (hk : ∀ id,id < h.length→blk? h' id = blk? h id) : PsI h' s vs ls :=
 ⟨hp.sl.of_sid fun id b _ hb=>by rw [hk id (blk?_lt hb)]; exact hb,hp.len,fun i h1 h2=>(hp.each i h1 h2).of_sid fun id b _ hb=>by rw [hk id (blk?_lt hb)]; exact hb,fun i h1 id hid=>Nat.lt_of_lt_of_le (hp.lt i h1 id hid) hl⟩
structure VLv (h0 H : Gag) (M p c : Nat) (m : MD) (w hh : Nat) (b : BS) : Prop where
 low : ∀ id,id < h0.length→blk? H id = blk? h0 id
 len : h0.length≤H.length
 box : blk? H M = some ⟨false,[.bool m.byp,.bool m.res,.bool m.rst,.bool m.cz,.bool m.sy]⟩
 cb : CB H false p c b
 good : b.Good
 d : h0.length≤c∧M ≠ c
 bw : b.w = w
 bh : b.h = hh
 dp : h0.length≤p
theorem Gzo {h0 : Gag} {M p c : Nat} {m : MD} {s v5 : Value} {vs : List Value} {ls : List (List (Int × Int))} {P O w hh : Nat} (hp : PsI h0 s vs ls) (hP : P≤60) (hP1 : 0 < ls.length→1≤P) (hO : O≤3) (hn : ls.length≤3 * P - 2) {k : List Ga1} {R : RP} :
  ∀ (n i : Nat) (H : Gag) (b : BS) (K6 K7 K8 K9 Ka Kc Kd Ke Kg Kh Ki Kj Kk Kl Km Kn Ko Kp Kq Kr Ks Kt Ku Kv Kw Kx Ky Kz J0 J1 J2 J3 J4 J5 J6 J7 J8 J9 Ja Jb Jc Jd Je Jf Jg Jh Ji Jm Jn Jo Jp Jq Jr Js Jt Ju Jv Jw Jx Jy Jz Y0 Y1 Y2 Y3 Y4 Y5 Y6 Y7 Y8 Y9 Ya Yb Yc Yd Ye Yf Yg Yh Yi Yj Yk Yl Ym Yn Yo Yp Yq Yr Ys Yt Yu Yv Yw Yx Yy Yz Z0 Z1 Z2 Z3 Z4 Z5 Z6 Z7 Z8 Z9 Za Zb Zc Zd Ze Zf Zg Zh Zi Zj Zk Zl Zm Zn Zo Zp Zq Zr Zs Zt Zu Zv Zw Zx Zy Zz K0q : Value),n = ls.length - i→i≤ls.length→VLv h0 H M p c m w hh b →
   (∀ (H' : Gag) (b' : BS) (K6 K7 K8 K9 Ka Kc Kd Ke Kg Kh Ki Kj Kk Kl Km Kn Ko Kp Kq Kr Ks Kt Ku Kv Kw Kx Ky Kz J0 J1 J2 J3 J4 J5 J6 J7 J8 J9 Ja Jb Jc Jd Je Jf Jg Jh Ji Jj Jk Jl Jm Jn Jo Jp Jq Jr Js Jt Ju Jv Jw Jx Jy Jz Y0 Y1 Y2 Y3 Y4 Y5 Y6 Y7 Y8 Y9 Ya Yb Yc Yd Ye Yf Yg Yh Yi Yj Yk Yl Ym Yn Yo Yp Yq Yr Ys Yt Yu Yv Yw Yx Yy Yz Z0 Z1 Z2 Z3 Z4 Z5 Z6 Z7 Z8 Z9 Za Zb Zc Zd Ze Zf Zg Zh Zi Zj Zk Zl Zm Zn Zo Zp Zq Zr Zs Zt Zu Zv Zw Zx Zy Zz K0q : Value),Gea m P O i b (ls.drop i) = (b',0)→VLv h0 H' M p c m w hh b'→Ok tab R28 k #[s,.int .i64 P,.int .i64 w,.int .i64 hh,.int .i64 O,v5,K6,K7,K8,K9,Ka,ptr M,Kc,Kd,Ke,ptr p,Kg,Kh,Ki,Kj,Kk,Kl,Km,Kn,Ko,Kp,Kq,Kr,Ks,Kt,Ku,Kv,Kw,Kx,Ky,Kz,J0,J1,J2,J3,J4,J5,J6,J7,J8,J9,Ja,Jb,Jc,Jd,Je,Jf,Jg,Jh,Ji,Jj,Jk,Jl,Jm,Jn,Jo,Jp,Jq,Jr,Js,Jt,Ju,Jv,Jw,Jx,Jy,Jz,Y0,Y1,Y2,Y3,Y4,Y5,Y6,Y7,Y8,Y9,Ya,Yb,Yc,Yd,Ye,Yf,Yg,Yh,Yi,Yj,Yk,Yl,Ym,Yn,Yo,Yp,Yq,Yr,Ys,Yt,Yu,Yv,Yw,Yx,Yy,Yz,Z0,Z1,Z2,Z3,Z4,Z5,Z6,Z7,Z8,Z9,Za,Zb,Zc,Zd,Ze,Zf,Zg,Zh,Zi,Zj,Zk,Zl,Zm,Zn,Zo,Zp,Zq,Zr,Zs,Zt,Zu,Zv,Zw,Zx,Zy,Zz,K0q] H' R) →
   (∀ (H' : Gag) (e : Int),(Gea m P O i b (ls.drop i)).2 = e→e ≠ 0→(∀ id,id < h0.length→blk? H' id = blk? h0 id)→h0.length≤H'.length→R (.tuple #[.slice none 0 0,.slice none 0 0,.int .i64 e]) H') →
   Ok tab R28 (.inLoop G6f :: .inBlock 0 :: k) #[s,.int .i64 P,.int .i64 w,.int .i64 hh,.int .i64 O,v5,K6,K7,K8,K9,Ka,ptr M,Kc,Kd,Ke,ptr p,Kg,Kh,Ki,Kj,Kk,Kl,Km,Kn,Ko,Kp,Kq,Kr,Ks,Kt,Ku,Kv,Kw,Kx,Ky,Kz,J0,J1,J2,J3,J4,J5,J6,J7,J8,J9,Ja,Jb,Jc,Jd,Je,Jf,Jg,Jh,Ji,s,.int .i64 ls.length,.int .i64 i,Jm,Jn,Jo,Jp,Jq,Jr,Js,Jt,Ju,Jv,Jw,Jx,Jy,Jz,Y0,Y1,Y2,Y3,Y4,Y5,Y6,Y7,Y8,Y9,Ya,Yb,Yc,Yd,Ye,Yf,Yg,Yh,Yi,Yj,Yk,Yl,Ym,Yn,Yo,Yp,Yq,Yr,Ys,Yt,Yu,Yv,Yw,Yx,Yy,Yz,Z0,Z1,Z2,Z3,Z4,Z5,Z6,Z7,Z8,Z9,Za,Zb,Zc,Zd,Ze,Zf,Zg,Zh,Zi,Zj,Zk,Zl,Zm,Zn,Zo,Zp,Zq,Zr,Zs,Zt,Zu,Zv,Zw,Zx,Zy,Zz,K0q] H R:=by
 intro n
 induction n with
 | zero =>
  intro i H b;intros;rename_i hm hi vl hk hx
  have hlt : ¬ ((i : Int) < ls.length):=by omega
  rw [List.drop_of_length_le (by omega)] at hk
  rw [Gad,Qdv,Gt8,Gwh]
  simp [hlt]
  exact hk H b _ _ _ _ _ _ _ _ _ _ _ _ _ _ _ _ _ _ _ _ _ _ _ _ _ _ _ _ _ _ _ _ _ _ _ _ _ _ _ _ _ _ _ _ _ _ _ _ _ _ _ _ _ _ _ _ _ _ _ _ _ _ _ _ _ _ _ _ _ _ _ _ _ _ _ _ _ _ _ _ _ _ _ _ _ _ _ _ _ _ _ _ _ _ _ _ _ _ _ _ _ _ _ _ _ _ _ _ _ _ _ _ _ _ _ _ _ _ _ _ _ _ _ _ _ _ _ _ _ _ _ _ _ _ _ _ _ rfl vl
 | succ n ih =>
  intro i H b;intros;rename_i hm hi vl hk hx
  have hil : i < ls.length:=by omega
  have hivs : i < vs.length:=by rw [hp.len]; exact hil
  have hlt : ((i : Int) < ls.length):=by omega
  have hw : IntKind.i64.wrap ((i : Int) + 1) = (i : Int) + 1:=Gbc (n:=i + 1) (by omega)
  have hpH:=hp.keep vl.len vl.low
  obtain ⟨id,off,bk,hs,hbk,hc⟩:=hpH.sl.get hivs
  have hc0:=hc 0 (by omega)
  rw [Nat.mul_one,Nat.add_zero,Nat.add_zero,List.getElem?_eq_getElem hivs] at hc0
  have hsl:=hpH.each i hivs hil
  have hfar:=hp.lt i hivs
  obtain ⟨d1,d2⟩:=vl.d
  rw [List.drop_eq_getElem_cons hil,Gea] at hk hx
  generalize vs[i] = sv at *
  generalize ls[i] = l at *
  obtain ⟨sa,scc,hsh⟩:=hsl.shape
  have hH1 : ∀ id,id < H.length→blk? (H++[some ⟨false,[sv,.bool false]⟩]) id = blk? H id:=fun id hid=>blk?_push_lt hid
  have hcb1 : CB (H++[some ⟨false,[sv,.bool false]⟩]) false p c b:=⟨by rw [hH1 _ (blk?_lt vl.cb.blkp)]; exact vl.cb.blkp,by rw [hH1 _ (blk?_lt vl.cb.blkc)]; exact vl.cb.blkc,vl.cb.ok⟩
  have hlc:=blk?_lt vl.cb.blkc
  have hlp:=blk?_lt vl.cb.blkp
  have hlM:=blk?_lt vl.box
  have hlen0:=vl.len
  have hrel : Qb1 c H.length (H++[some ⟨false,[sv,.bool false]⟩]) sv (l,false):=⟨blk?_push_eq,hsl.push _,fun id hid=>by have:=hfar id hid; simp; omega,by omega⟩
  obtain ⟨t',H2,e,dr⟩:=Qch (A:=srcV c H.length) (t:=sv) (s:=(l,false)) hcb1 vl.good.rng hrel (by show ¬ p = H.length; omega) (by simp) (by show 0 + 100000 < 1000000; omega) i P O m
  have herr : Gbj (i : Int) (P : Int) (O : Int) = 0:=by unfold Gbj; rw [if_neg (by omega),if_neg (by omega)]
  have hout : Gkc (srcV c H.length).ask m b (i : Int) (P : Int) (O : Int) (l,false) = (Gn2 m b i P O).run Giz (l,false):=by
   unfold Gkc; rw [if_pos herr]; rfl
  rw [hout] at e dr
  have hde : ∀ r,Gx7 (i : Int) (P : Int) (O : Int) r = cond r 0 16:=fun r=>by unfold Gx7; rw [herr]; simp
  rw [hde] at e
  have hlow2 : ∀ id,id < h0.length→blk? H2 id = blk? h0 id:=fun id hid=>by
   rw [dr.st.same id (by simp; omega) (by omega) (by show ¬ id = H.length; omega),hH1 id (by omega)]
   exact vl.low id hid
  have hlen2 : H.length + 1≤H2.length:=by have:=dr.st.len; simpa using this
  have hrel2 : Qb1 c H.length H2 t' ((Gn2 m b i P O).run Giz (l,false)).2:=dr.rel
  have hbox : blk? (H++[some ⟨false,[sv,.bool false]⟩]) M = some ⟨false,[.bool m.byp,.bool m.res,.bool m.rst,.bool m.cz,.bool m.sy]⟩:=by rw [hH1 _ hlM]; exact vl.box
  have hle:=(Tr.Lv.out (A:=Giz) (size:=fun _=>0) (fun _ _=>by simp) (l,false) (Gsp vl.good (m:=m) (n:=i) (planes:=P) (o:=O) (Gjh hP (hP1 (by omega)) hO))).1
  obtain ⟨pl1,pl2⟩:=Gq0 (Gn2 m b i P O) l
  simp only [MD.val] at e
  rw [Gad,Qdv,Gt8,Gwh]
  subst hsh
  subst hs
  cases hpl : (Gn2 m b i P O).play l with
  | none =>
   have hbad:=pl2 hpl
   have hb2:=hrel2.blk
   rw [hbad] at hb2
   rw [hpl] at hx
   obtain ⟨a2,c2,hs2⟩:=hrel2.sl.shape
   subst hs2
   simp [-List.cons_append,-List.append_assoc,Gaa,hlt,hivs,hbk,hc0,hbox,e,hb2,Gj3]
   exact hx H2 8 rfl (by decide) hlow2 (by omega)
  | some q =>
   obtain ⟨⟨b',r⟩,l'⟩:=q
   have hrun:=pl1 _ _ hpl
   rw [hrun] at e dr hrel2 hle
   rw [hpl] at hx hk
   have hb2:=hrel2.blk
   simp only at hb2 e hx hk dr hle
   obtain ⟨a2,c2,hs2⟩:=hrel2.sl.shape
   simp only at hs2
   cases r
   ·simp only [cond_false,if_true] at e hx
    subst hs2
    simp [-List.cons_append,-List.append_assoc,Gaa,hlt,hivs,hbk,hc0,hbox,e,hb2,Gj3]
    exact hx H2 16 rfl (by decide) hlow2 (by omega)
   ·simp only [cond_true,Bool.true_eq_false,if_false] at e hx hk
    subst hs2
    cases l' with
    | cons y l' =>
     simp only at hx
     have hpos : (0 : Int) < (l'.length : Int) + 1:=by omega
     simp [-List.cons_append,-List.append_assoc,Gaa,hlt,hivs,hbk,hc0,hbox,e,hb2,hpos,Gj3]
     exact hx H2 8 rfl (by decide) hlow2 (by omega)
    | nil =>
     simp only at hx hk
     simp [-List.cons_append,-List.append_assoc,Gaa,hlt,hivs,hbk,hc0,hbox,e,hb2,hw,Gj3]
     have vl2 : VLv h0 H2 M p c m w hh b':=by
      refine ⟨hlow2,by omega,?_,dr.cb,dr.good,⟨d1,d2⟩,by rw [hle.w]; exact vl.bw,by rw [hle.h]; exact vl.bh,vl.dp⟩
      rw [dr.st.same M (by simp; omega) d2 (by show ¬ M = H.length; omega)]
      exact hbox
     exact ih (i + 1) H2 b' _ _ _ _ _ _ _ _ _ _ _ _ _ _ _ _ _ _ _ _ _ _ _ _ _ _ _ _ _ _ _ _ _ _ _ _ _ _ _ _ _ _ _ _ _ _ _ _ _ _ _ _ _ _ _ _ _ _ _ _ _ _ _ _ _ _ _ _ _ _ _ _ _ _ _ _ _ _ _ _ _ _ _ _ _ _ _ _ _ _ _ _ _ _ _ _ _ _ _ _ _ _ _ _ _ _ _ _ _ _ _ _ _ _ _ _ _ _ _ _ _ _ _ _ _ _ _ _ _ _ _ _ _ _ (by omega) (by omega) vl2 hk hx
structure VB (h0 H : Gag) (p c : Nat) (b : BS) (v1 v2 : Value) (xs ys : List Int) : Prop where
 low : ∀ id,id < h0.length→blk? H id = blk? h0 id
 len : h0.length≤H.length
 cb : CB H false p c b
 o1 : Ga7 H 1 v1 xs.length (Gcj xs)
 o2 : Ga7 H 1 v2 ys.length (Gcj ys)
 f1 : ∀ id,sid v1 = some id→h0.length≤id∧id ≠ c∧id ≠ p
 f2 : ∀ id,sid v2 = some id→h0.length≤id∧id ≠ c∧id ≠ p
 ne : ∀ id,sid v1 = some id→sid v2 ≠ some id
theorem VB.swap {h0 H : Gag} {p c : Nat} {b : BS} {v1 v2 : Value} {xs ys : List Int} (h : VB h0 H p c b v1 v2 xs ys) : VB h0 H p c b v2 v1 ys xs :=
 ⟨h.low,h.len,h.cb,h.o2,h.o1,h.f2,h.f1,fun id e e'=>h.ne id e' e⟩
theorem VB.push1 {h0 H : Gag} {p c : Nat} {b : BS} {v1 v2 : Value} {xs ys : List Int} (h : VB h0 H p c b v1 v2 xs ys) (hl : xs.length < 100000) (v : Int) :
  ∃ H',Gb0 (H++[some ⟨false,[.int .i64 v]⟩]) 1 8 v1 (.slice (some ⟨H.length,0,none⟩) 1 1) = some (.slice (some ⟨H.length + 1,0,none⟩) (xs.length + 1) 1,H') ∧
   VB h0 H' p c b (.slice (some ⟨H.length + 1,0,none⟩) (xs.length + 1) 1) v2 (xs++[v]) ys:=by
 have hsl : Sl (H++[some ⟨false,[.int .i64 v]⟩]) 1 (.slice (some ⟨H.length,0,none⟩) 1 1) 1 [.int .i64 v] :=
  ⟨by simp,.inr ⟨H.length,0,rfl,.inr ⟨_,blk?_push_eq,by simp,by simp⟩⟩⟩
 have ho : Ga7 (H++[some ⟨false,[.int .i64 v]⟩]) 1 v1 xs.length (Gcj xs):=h.o1.of_blk fun id _ hb=>blk?_push hb
 obtain ⟨H',ha,hK,hHl,hHs⟩:=Gbs (bytes:=8) ho hsl (by unfold Gaq; omega) (by omega) (by omega)
 simp only [List.length_append,List.length_singleton] at ha hK hHl hHs
 have hk : ∀ id,id < H.length→sid v1 ≠ some id→blk? H' id = blk? H id:=fun id hid hne=>by rw [hHs id (by omega) hne,blk?_push_lt hid]
 have hlen:=h.len
 have lp:=blk?_lt h.cb.blkp
 have lc:=blk?_lt h.cb.blkc
 refine ⟨H',ha,fun id hid=>?_,by omega,⟨?_,?_,h.cb.ok⟩,?_,?_,fun id hid=>?_,h.f2,fun id hid e=>?_⟩
 ·rw [hk id (by omega) (fun e=>by have:=h.f1 id e; omega)]; exact h.low id hid
 ·rw [hk p lp (fun e=>(h.f1 p e).2.2 rfl)]; exact h.cb.blkp
 ·rw [hk c lc (fun e=>(h.f1 c e).2.1 rfl)]; exact h.cb.blkc
 ·refine ⟨by simp [Gcj],.inr ⟨H.length + 1,by simp,?_⟩⟩
  rw [hK]; simp [Gcj]
 ·refine h.o2.of_blk fun id hid hb=>?_
  rw [hk id (blk?_lt hb) (fun e=>h.ne id e hid)]; exact hb
 ·simp [sid] at hid; omega
 ·simp [sid] at hid
  have:=h.o2.lt e
  omega
theorem G35 {h : Gag} {R : RP} : Ret tab 62 [.int .i64 (-1)] h R = R (.tuple #[.int .i64 (-1),.int .i64 (-1)]) h:=by
 rw [Gzf,B62]
 simp [Qay]
theorem G1j {b : BS} (ho : b.Ok) {x y : Nat} (hx : x < b.w) (hy : y < b.h) : y * b.w + x < b.cs.length∧b.cs[y * b.w + x]? = some (b.get x y):=by
 have hi : b.inb x y:=⟨by omega,by omega,by omega,by omega⟩
 have h1:=BS.get_in ho hi
 have h2:=BS.idx_lt ho hi
 have e : b.idx x y = y * b.w + x:=by
  unfold BS.idx
  rw [show ((y : Int) * b.w + x) = ((y * b.w + x : Nat) : Int) by simp]; rfl
 rw [e] at h1 h2
 exact ⟨h2,h1⟩
def Gef (b : BS) (i : Nat) : List Int:=(b.cs.take i).map (·.v)
def Geg (P : Int) (n : Nat) (b : BS) (i : Nat) : List Int:=(b.cs.take i).map fun c=>leftOf P n c.t
theorem Gsy {b : BS} {i : Nat} {c : Cell} (h : b.cs[i]? = some c) : Gef b (i + 1) = Gef b i++[c.v]:=by
 obtain ⟨hi,rfl⟩:=List.getElem?_eq_some_iff.1 h
 unfold Gef
 rw [List.take_succ_eq_append_getElem hi,List.map_append]; rfl
theorem Gsc {P : Int} {n : Nat} {b : BS} {i : Nat} {c : Cell} (h : b.cs[i]? = some c) : Geg P n b (i + 1) = Geg P n b i++[leftOf P n c.t]:=by
 obtain ⟨hi,rfl⟩:=List.getElem?_eq_some_iff.1 h
 unfold Geg
 rw [List.take_succ_eq_append_getElem hi,List.map_append]; rfl
theorem Gmh {b : BS} {i : Nat} (h : i≤b.cs.length) : (Gef b i).length = i:=by simp [Gef]; omega
theorem Gme {P : Int} {n : Nat} {b : BS} {i : Nat} (h : i≤b.cs.length) : (Geg P n b i).length = i:=by simp [Geg]; omega
section
variable {h0 : Gag} {p c : Nat} {b : BS} {P n : Nat} {pl kd : Int} {s v3 v4 v5 v11 v103 v104 : Value} {k : List Ga1} {R : RP}
theorem G1p (hP : P≤60) (hpl : -1≤pl∧pl≤100) (hleft : ∀ t,leftOf P n t = P - 1 - pl + if (decide (0 < n) && kd != 2 && !t) = true then 1 else 0) {y : Nat} (hy : y < b.h) :
  ∀ (m x : Nat) (H : Gag) (v1 v2 : Value) (K6 K7 K8 K9 Ka Ke Kg Kh Ki Kj Ko Kp Kq Kr Ks Kt Ku Kv Kw Kx Ky Kz J0 J1 J2 J3 J4 J5 J6 J7 J8 J9 Ja Jb Jc Jd Je Jf Jg Jh Ji Jj Jk Jl Jm Jn Jo Jp Jq Jr Js Jt Ju Jv Jw Jx Jy Jz Y0 Y1 Y2 Y3 Y4 Y5 Y6 Y7 Y8 Y9 Ya Yb Yc Yd Ye Yf Yg Yh Yi Yj Yk Yl Ym Yn Yo Yp Yq Yr Ys Yt Yu Yx Yy Z1 Z2 Z3 Z4 Z5 Z6 Z7 Z8 Z9 Za Zb Zc Zd Ze Zf Zg Zh Zi Zj Zk Zl Zm Zn Zo Zp Zq Zr Zs Zt Zu Zv Zw Zx Zy Zz K0q : Value),m = b.w - x→x≤b.w→VB h0 H p c b v1 v2 (Gef b (y * b.w + x)) (Geg P n b (y * b.w + x)) →
   (∀ (H' : Gag) (v1' v2' : Value) (K6 K7 K8 K9 Ka Ke Kg Kh Ki Kj Ko Kp Kq Kr Ks Kt Ku Kv Kw Kx Ky Kz J0 J1 J2 J3 J4 J5 J6 J7 J8 J9 Ja Jb Jc Jd Je Jf Jg Jh Ji Jj Jk Jl Jm Jn Jo Jp Jq Jr Js Jt Ju Jv Jw Jx Jy Jz Y0 Y1 Y2 Y3 Y4 Y5 Y6 Y7 Y8 Y9 Ya Yb Yc Yd Ye Yf Yg Yh Yi Yj Yk Yl Ym Yn Yo Yp Yq Yr Ys Yt Yu Yx Yy Yz Z0 Z1 Z2 Z3 Z4 Z5 Z6 Z7 Z8 Z9 Za Zb Zc Zd Ze Zf Zg Zh Zi Zj Zk Zl Zm Zn Zo Zp Zq Zr Zs Zt Zu Zv Zw Zx Zy Zz K0q : Value),VB h0 H' p c b v1' v2' (Gef b (y * b.w + b.w)) (Geg P n b (y * b.w + b.w)) →
    Ok tab R28 k #[s,.int .i64 P,.int .i64 b.w,v3,v4,v5,K6,K7,K8,K9,Ka,v11,v1',v2',Ke,ptr p,Kg,Kh,Ki,Kj,.int .i64 n,.int .i64 pl,.int .i64 kd,.int .i64 y,Ko,Kp,Kq,Kr,Ks,Kt,Ku,Kv,Kw,Kx,Ky,Kz,J0,J1,J2,J3,J4,J5,J6,J7,J8,J9,Ja,Jb,Jc,Jd,Je,Jf,Jg,Jh,Ji,Jj,Jk,Jl,Jm,Jn,Jo,Jp,Jq,Jr,Js,Jt,Ju,Jv,Jw,Jx,Jy,Jz,Y0,Y1,Y2,Y3,Y4,Y5,Y6,Y7,Y8,Y9,Ya,Yb,Yc,Yd,Ye,Yf,Yg,Yh,Yi,Yj,Yk,Yl,Ym,Yn,Yo,Yp,Yq,Yr,Ys,Yt,Yu,v103,v104,Yx,Yy,Yz,Z0,Z1,Z2,Z3,Z4,Z5,Z6,Z7,Z8,Z9,Za,Zb,Zc,Zd,Ze,Zf,Zg,Zh,Zi,Zj,Zk,Zl,Zm,Zn,Zo,Zp,Zq,Zr,Zs,Zt,Zu,Zv,Zw,Zx,Zy,Zz,K0q] H' R) →
   Ok tab R28 (.inLoop G54 :: .inBlock 4 :: k) #[s,.int .i64 P,.int .i64 b.w,v3,v4,v5,K6,K7,K8,K9,Ka,v11,v1,v2,Ke,ptr p,Kg,Kh,Ki,Kj,.int .i64 n,.int .i64 pl,.int .i64 kd,.int .i64 y,Ko,Kp,Kq,Kr,Ks,Kt,Ku,Kv,Kw,Kx,Ky,Kz,J0,J1,J2,J3,J4,J5,J6,J7,J8,J9,Ja,Jb,Jc,Jd,Je,Jf,Jg,Jh,Ji,Jj,Jk,Jl,Jm,Jn,Jo,Jp,Jq,Jr,Js,Jt,Ju,Jv,Jw,Jx,Jy,Jz,Y0,Y1,Y2,Y3,Y4,Y5,Y6,Y7,Y8,Y9,Ya,Yb,Yc,Yd,Ye,Yf,Yg,Yh,Yi,Yj,Yk,Yl,Ym,Yn,Yo,Yp,Yq,Yr,Ys,Yt,Yu,v103,v104,Yx,Yy,.int .i64 b.w,.int .i64 x,Z1,Z2,Z3,Z4,Z5,Z6,Z7,Z8,Z9,Za,Zb,Zc,Zd,Ze,Zf,Zg,Zh,Zi,Zj,Zk,Zl,Zm,Zn,Zo,Zp,Zq,Zr,Zs,Zt,Zu,Zv,Zw,Zx,Zy,Zz,K0q] H R:=by
 intro m
 induction m with
 | zero =>
  intro x H v1 v2;intros;rename_i hm hx vb hk
  have hlt : ¬ ((x : Int) < b.w):=by omega
  obtain rfl : x = b.w:=by omega
  rw [Gad,Qdt,Gvw,Gv3]
  simp [hlt]
  exact hk H v1 v2 _ _ _ _ _ _ _ _ _ _ _ _ _ _ _ _ _ _ _ _ _ _ _ _ _ _ _ _ _ _ _ _ _ _ _ _ _ _ _ _ _ _ _ _ _ _ _ _ _ _ _ _ _ _ _ _ _ _ _ _ _ _ _ _ _ _ _ _ _ _ _ _ _ _ _ _ _ _ _ _ _ _ _ _ _ _ _ _ _ _ _ _ _ _ _ _ _ _ _ _ _ _ _ _ _ _ _ _ _ _ _ _ _ _ _ _ _ _ _ _ _ _ _ _ _ _ _ _ _ vb
 | succ m ih =>
  intro x H v1 v2;intros;rename_i hm hx vb hk
  have hxl : x < b.w:=by omega
  have hlt : ((x : Int) < b.w):=by omega
  have hw2:=vb.cb.ok.w2
  have hh2:=vb.cb.ok.h2
  have hm64 : y * b.w≤64 * 64:=Nat.mul_le_mul (by omega) hw2
  have hw : IntKind.i64.wrap ((x : Int) + 1) = ((x + 1 : Nat) : Int):=Gbc (n:=x + 1) (by omega)
  obtain ⟨hil,hgi⟩:=G1j vb.cb.ok hxl hy
  have hwa : IntKind.i64.wrap ((P : Int) - 1) = (P : Int) - 1:=Gan (by omega) (by omega)
  have hwb : IntKind.i64.wrap ((P : Int) - 1 - pl) = (P : Int) - 1 - pl:=Gan (by omega) (by omega)
  have hwc : IntKind.i64.wrap ((P : Int) - 1 - pl + 1) = (P : Int) - 1 - pl + 1:=Gan (by omega) (by omega)
  have hv:=fun R=>Gn8 (R:=R) (x:=(x : Int)) (y:=(y : Int)) vb.cb
  obtain ⟨H1,e1,vb1⟩:=vb.push1 (by rw [Gmh (by omega)]; omega) (b.get x y).v
  have ht:=fun R=>Gcf (R:=R) (x:=(x : Int)) (y:=(y : Int)) vb1.cb
  obtain ⟨H2,e2,vb2⟩:=vb1.swap.push1 (by rw [Gme (by omega)]; omega) (leftOf P n (b.get x y).t)
  have vb3:=vb2.swap
  rw [← Gsy hgi,← Gsc (P:=P) (n:=n) hgi] at vb3
  rw [Nat.add_assoc] at vb3
  have hl:=hleft (b.get x y).t
  rw [Gmh (by omega)] at e1 vb3
  rw [Gme (by omega)] at e2 vb3
  generalize hnx : ((x + 1 : Nat) : Int) = xi at *
  have ih':=fun K6 K7 K8 K9 Ka Ke Kg Kh Ki Kj Ko Kp Kq Kr Ks Kt Ku Kv Kw Kx Ky Kz J0 J1 J2 J3 J4 J5 J6 J7 J8 J9 Ja Jb Jc Jd Je Jf Jg Jh Ji Jj Jk Jl Jm Jn Jo Jp Jq Jr Js Jt Ju Jv Jw Jx Jy Jz Y0 Y1 Y2 Y3 Y4 Y5 Y6 Y7 Y8 Y9 Ya Yb Yc Yd Ye Yf Yg Yh Yi Yj Yk Yl Ym Yn Yo Yp Yq Yr Ys Yt Yu Yx Yy Z1 Z2 Z3 Z4 Z5 Z6 Z7 Z8 Z9 Za Zb Zc Zd Ze Zf Zg Zh Zi Zj Zk Zl Zm Zn Zo Zp Zq Zr Zs Zt Zu Zv Zw Zx Zy Zz K0q=>ih (x + 1) H2 _ _ K6 K7 K8 K9 Ka Ke Kg Kh Ki Kj Ko Kp Kq Kr Ks Kt Ku Kv Kw Kx Ky Kz J0 J1 J2 J3 J4 J5 J6 J7 J8 J9 Ja Jb Jc Jd Je Jf Jg Jh Ji Jj Jk Jl Jm Jn Jo Jp Jq Jr Js Jt Ju Jv Jw Jx Jy Jz Y0 Y1 Y2 Y3 Y4 Y5 Y6 Y7 Y8 Y9 Ya Yb Yc Yd Ye Yf Yg Yh Yi Yj Yk Yl Ym Yn Yo Yp Yq Yr Ys Yt Yu Yx Yy Z1 Z2 Z3 Z4 Z5 Z6 Z7 Z8 Z9 Za Zb Zc Zd Ze Zf Zg Zh Zi Zj Zk Zl Zm Zn Zo Zp Zq Zr Zs Zt Zu Zv Zw Zx Zy Zz K0q (by omega) (by omega) vb3 hk
  rw [hnx] at ih'
  rw [Gad,Qdt,Gvw,Gv3]
  generalize leftOf P n (b.get x y).t = lf at *
  generalize (b.get x y).v = vv at *
  by_cases h1 : 0 < n
  ·have h1' : (0 : Int) < (n : Int):=by omega
   by_cases h2 : kd = 2
   ·have h2' : (kd != 2) = false:=by simp [h2]
    simp [h2'] at hl
    subst hl
    simp [Gaa,Gah,hlt,hv,Gd4,e1,hwa,hwb,h1,h1',h2',e2,hw]
    exact ih' ..
   ·have h2' : (kd != 2) = true:=by simp [h2]
    cases htt : (b.get x y).t
    ·simp [h1,h2',htt] at hl
     rw [htt] at ht
     subst hl
     simp [Gaa,Gah,hlt,hv,Gd4,e1,hwa,hwb,hwc,h1,h1',h2',ht,e2,hw]
     exact ih' ..
    ·simp [htt] at hl
     rw [htt] at ht
     subst hl
     simp [Gaa,Gah,hlt,hv,Gd4,e1,hwa,hwb,h1,h1',h2',ht,e2,hw]
     exact ih' ..
  ·have h1' : ¬ (0 : Int) < (n : Int):=by omega
   simp [h1] at hl
   subst hl
   simp [Gaa,Gah,hlt,hv,Gd4,e1,hwa,hwb,h1,h1',e2,hw]
   exact ih' ..
theorem Gzh (hP : P≤60) (hpl : -1≤pl∧pl≤100) (hleft : ∀ t,leftOf P n t = P - 1 - pl + if (decide (0 < n) && kd != 2 && !t) = true then 1 else 0) :
  ∀ (m y : Nat) (H : Gag) (v1 v2 : Value) (K6 K7 K8 K9 Ka Ke Kg Kh Ki Kj Kn Ko Kp Kq Kr Ks Kt Ku Kv Kw Kx Ky Kz J0 J1 J2 J3 J4 J5 J6 J7 J8 J9 Ja Jb Jc Jd Je Jf Jg Jh Ji Jj Jk Jl Jm Jn Jo Jp Jq Jr Js Jt Ju Jv Jw Jx Jy Jz Y0 Y1 Y2 Y3 Y4 Y5 Y6 Y7 Y8 Y9 Ya Yb Yc Yd Ye Yf Yg Yh Yi Yj Yk Yl Ym Yn Yo Yp Yq Yr Ys Yt Yu Yx Yy Yz Z0 Z1 Z2 Z3 Z4 Z5 Z6 Z7 Z8 Z9 Za Zb Zc Zd Ze Zf Zg Zh Zi Zj Zk Zl Zm Zn Zo Zp Zq Zr Zs Zt Zu Zv Zw Zx Zy Zz K0q : Value),m = b.h - y→y≤b.h→VB h0 H p c b v1 v2 (Gef b (y * b.w)) (Geg P n b (y * b.w)) →
   (∀ (H' : Gag) (v1' v2' : Value) (K6 K7 K8 K9 Ka Ke Kg Kh Ki Kj Kn Ko Kp Kq Kr Ks Kt Ku Kv Kw Kx Ky Kz J0 J1 J2 J3 J4 J5 J6 J7 J8 J9 Ja Jb Jc Jd Je Jf Jg Jh Ji Jj Jk Jl Jm Jn Jo Jp Jq Jr Js Jt Ju Jv Jw Jx Jy Jz Y0 Y1 Y2 Y3 Y4 Y5 Y6 Y7 Y8 Y9 Ya Yb Yc Yd Ye Yf Yg Yh Yi Yj Yk Yl Ym Yn Yo Yp Yq Yr Ys Yt Yu Yv Yw Yx Yy Yz Z0 Z1 Z2 Z3 Z4 Z5 Z6 Z7 Z8 Z9 Za Zb Zc Zd Ze Zf Zg Zh Zi Zj Zk Zl Zm Zn Zo Zp Zq Zr Zs Zt Zu Zv Zw Zx Zy Zz K0q : Value),VB h0 H' p c b v1' v2' (Gef b (b.h * b.w)) (Geg P n b (b.h * b.w)) →
    Ok tab R28 k #[s,.int .i64 P,.int .i64 b.w,v3,v4,v5,K6,K7,K8,K9,Ka,v11,v1',v2',Ke,ptr p,Kg,Kh,Ki,Kj,.int .i64 n,.int .i64 pl,.int .i64 kd,Kn,Ko,Kp,Kq,Kr,Ks,Kt,Ku,Kv,Kw,Kx,Ky,Kz,J0,J1,J2,J3,J4,J5,J6,J7,J8,J9,Ja,Jb,Jc,Jd,Je,Jf,Jg,Jh,Ji,Jj,Jk,Jl,Jm,Jn,Jo,Jp,Jq,Jr,Js,Jt,Ju,Jv,Jw,Jx,Jy,Jz,Y0,Y1,Y2,Y3,Y4,Y5,Y6,Y7,Y8,Y9,Ya,Yb,Yc,Yd,Ye,Yf,Yg,Yh,Yi,Yj,Yk,Yl,Ym,Yn,Yo,Yp,Yq,Yr,Ys,Yt,Yu,Yv,Yw,Yx,Yy,Yz,Z0,Z1,Z2,Z3,Z4,Z5,Z6,Z7,Z8,Z9,Za,Zb,Zc,Zd,Ze,Zf,Zg,Zh,Zi,Zj,Zk,Zl,Zm,Zn,Zo,Zp,Zq,Zr,Zs,Zt,Zu,Zv,Zw,Zx,Zy,Zz,K0q] H' R) →
   Ok tab R28 (.inLoop G09 :: .inBlock 2 :: k) #[s,.int .i64 P,.int .i64 b.w,v3,v4,v5,K6,K7,K8,K9,Ka,v11,v1,v2,Ke,ptr p,Kg,Kh,Ki,Kj,.int .i64 n,.int .i64 pl,.int .i64 kd,Kn,Ko,Kp,Kq,Kr,Ks,Kt,Ku,Kv,Kw,Kx,Ky,Kz,J0,J1,J2,J3,J4,J5,J6,J7,J8,J9,Ja,Jb,Jc,Jd,Je,Jf,Jg,Jh,Ji,Jj,Jk,Jl,Jm,Jn,Jo,Jp,Jq,Jr,Js,Jt,Ju,Jv,Jw,Jx,Jy,Jz,Y0,Y1,Y2,Y3,Y4,Y5,Y6,Y7,Y8,Y9,Ya,Yb,Yc,Yd,Ye,Yf,Yg,Yh,Yi,Yj,Yk,Yl,Ym,Yn,Yo,Yp,Yq,Yr,Ys,Yt,Yu,.int .i64 b.h,.int .i64 y,Yx,Yy,Yz,Z0,Z1,Z2,Z3,Z4,Z5,Z6,Z7,Z8,Z9,Za,Zb,Zc,Zd,Ze,Zf,Zg,Zh,Zi,Zj,Zk,Zl,Zm,Zn,Zo,Zp,Zq,Zr,Zs,Zt,Zu,Zv,Zw,Zx,Zy,Zz,K0q] H R:=by
 intro m
 induction m with
 | zero =>
  intro y H v1 v2;intros;rename_i hm hy vb hk
  have hlt : ¬ ((y : Int) < b.h):=by omega
  obtain rfl : y = b.h:=by omega
  rw [Gad,Qd4,Gv8,Gtz]
  simp [hlt]
  exact hk H v1 v2 _ _ _ _ _ _ _ _ _ _ _ _ _ _ _ _ _ _ _ _ _ _ _ _ _ _ _ _ _ _ _ _ _ _ _ _ _ _ _ _ _ _ _ _ _ _ _ _ _ _ _ _ _ _ _ _ _ _ _ _ _ _ _ _ _ _ _ _ _ _ _ _ _ _ _ _ _ _ _ _ _ _ _ _ _ _ _ _ _ _ _ _ _ _ _ _ _ _ _ _ _ _ _ _ _ _ _ _ _ _ _ _ _ _ _ _ _ _ _ _ _ _ _ _ _ _ _ _ _ _ _ _ vb
 | succ m ih =>
  intro y H v1 v2;intros;rename_i hm hy vb hk
  have hlt : ((y : Int) < b.h):=by omega
  have hh2:=vb.cb.ok.h2
  have hw : IntKind.i64.wrap ((y : Int) + 1) = ((y + 1 : Nat) : Int):=Gbc (n:=y + 1) (by omega)
  rw [Gad,Qd4,Gv8,Gtz]
  simp [hlt]
  refine G1p hP hpl hleft (y:=y) (by omega) b.w 0 H v1 v2 _ _ _ _ _ _ _ _ _ _ _ _ _ _ _ _ _ _ _ _ _ _ _ _ _ _ _ _ _ _ _ _ _ _ _ _ _ _ _ _ _ _ _ _ _ _ _ _ _ _ _ _ _ _ _ _ _ _ _ _ _ _ _ _ _ _ _ _ _ _ _ _ _ _ _ _ _ _ _ _ _ _ _ _ _ _ _ _ _ _ _ _ _ _ _ _ _ _ _ _ _ _ _ _ _ _ _ _ _ _ _ _ _ _ _ _ _ _ _ _ _ _ _ _ _ _ _ (by omega) (by omega) vb ?_
  intro H' v1' v2';intros;rename_i vb'
  have e : (y + 1) * b.w = y * b.w + b.w:=by rw [Nat.add_mul]; omega
  rw [← e] at vb'
  have ih':=fun K6 K7 K8 K9 Ka Ke Kg Kh Ki Kj Kn Ko Kp Kq Kr Ks Kt Ku Kv Kw Kx Ky Kz J0 J1 J2 J3 J4 J5 J6 J7 J8 J9 Ja Jb Jc Jd Je Jf Jg Jh Ji Jj Jk Jl Jm Jn Jo Jp Jq Jr Js Jt Ju Jv Jw Jx Jy Jz Y0 Y1 Y2 Y3 Y4 Y5 Y6 Y7 Y8 Y9 Ya Yb Yc Yd Ye Yf Yg Yh Yi Yj Yk Yl Ym Yn Yo Yp Yq Yr Ys Yt Yu Yx Yy Yz Z0 Z1 Z2 Z3 Z4 Z5 Z6 Z7 Z8 Z9 Za Zb Zc Zd Ze Zf Zg Zh Zi Zj Zk Zl Zm Zn Zo Zp Zq Zr Zs Zt Zu Zv Zw Zx Zy Zz K0q=>ih (y + 1) H' v1' v2' K6 K7 K8 K9 Ka Ke Kg Kh Ki Kj Kn Ko Kp Kq Kr Ks Kt Ku Kv Kw Kx Ky Kz J0 J1 J2 J3 J4 J5 J6 J7 J8 J9 Ja Jb Jc Jd Je Jf Jg Jh Ji Jj Jk Jl Jm Jn Jo Jp Jq Jr Js Jt Ju Jv Jw Jx Jy Jz Y0 Y1 Y2 Y3 Y4 Y5 Y6 Y7 Y8 Y9 Ya Yb Yc Yd Ye Yf Yg Yh Yi Yj Yk Yl Ym Yn Yo Yp Yq Yr Ys Yt Yu Yx Yy Yz Z0 Z1 Z2 Z3 Z4 Z5 Z6 Z7 Z8 Z9 Za Zb Zc Zd Ze Zf Zg Zh Zi Zj Zk Zl Zm Zn Zo Zp Zq Zr Zs Zt Zu Zv Zw Zx Zy Zz K0q (by omega) (by omega) vb' hk
  generalize ((y + 1 : Nat) : Int) = yi at *
  simp [hw]
  exact ih' ..
end
structure Gjr (h h' : Gag) (v1 v2 : Value) (r : Int × List Int × List Int) : Prop where
 o1 : Ga7 h' 1 v1 r.2.1.length (Gcj r.2.1)
 o2 : Ga7 h' 1 v2 r.2.2.length (Gcj r.2.2)
 low : ∀ id,id < h.length→blk? h' id = blk? h id
 len : h.length≤h'.length
 fr : ∀ id,sid v1 = some id∨sid v2 = some id→h.length≤id
 ne : ∀ id,sid v1 = some id→sid v2 ≠ some id
theorem Gjr.bad {h h' : Gag} (low : ∀ id,id < h.length→blk? h' id = blk? h id) (len : h.length≤h'.length) (e : Int) : Gjr h h' (.slice none 0 0) (.slice none 0 0) (e,[],[]):=⟨Ga7.nil _ _,Ga7.nil _ _,low,len,fun id hid=>by simp [sid] at hid,fun id hid=>by simp [sid] at hid⟩
theorem G5n {h : Gag} {s : Value} {vs : List Value} {ls : List (List (Int × Int))} (hp : PsI h s vs ls) (hl : ls.length < 100000) (P w hh o : Int) (hPr : -9223372036854775808≤P∧P < 9223372036854775808) (m : MD) :
  ∃ v1 v2 h',(∀ R,Ret tab 28 [s,.int .i64 P,.int .i64 w,.int .i64 hh,.int .i64 o,m.val] h R = R (.tuple #[v1,v2,.int .i64 (Gdy ls P w hh o m).1]) h')∧Gjr h h' v1 v2 (Gdy ls P w hh o m):=by
 have key : Ret tab 28 [s,.int .i64 P,.int .i64 w,.int .i64 hh,.int .i64 o,m.val] h fun v h'=>∃ v1 v2,v = .tuple #[v1,v2,.int .i64 (Gdy ls P w hh o m).1]∧Gjr h h' v1 v2 (Gdy ls P w hh o m):=by
  obtain ⟨a,cc,hs⟩:=hp.sl.shape
  rw [hp.len] at hs
  rw [G9e,show B28 = .seq (Gau 0 B28) (.seq (Gau 1 B28) (.seq (Gau 2 B28) (.seq (Gau 3 B28) (.seq (Gau 4 B28) (tlC 5 B28))))) from rfl]
  generalize hT : tlC 5 B28 = tl
  simp only [Gau,tlC,Gd5,B28]
  have hkp : ∀ x : Option Blk,∀ id,id < h.length→blk? (h++[x]) id = blk? h id:=fun x id hid=>blk?_push_lt hid
  have hbadr : ∀ e,Gey ls.length P w hh o = e→e ≠ 0→Gdy ls P w hh o m = (e,[],[]):=fun e he h0=>by unfold Gdy; rw [he,if_pos h0]
  cases hsz : sized w hh
  ·have hr:=hbadr 2 (by unfold Gey; rw [if_pos (.inl (by simp [hsz]))]) (by decide)
   rw [hr]
   simp [MD.val,G10 hsz,Gaa,Gah,Gj3]
   exact ⟨_,_,⟨rfl,rfl⟩,Gjr.bad (hkp _) (by simp) _⟩
  have hsz':=hsz
  simp only [sized,decide_eq_true_eq] at hsz'
  obtain ⟨w,rfl⟩:=Int.eq_ofNat_of_zero_le (show 0≤w by omega)
  obtain ⟨hh,rfl⟩:=Int.eq_ofNat_of_zero_le (show 0≤hh by omega)
  have w1 : 1≤w:=by omega
  have w2 : w≤64:=by omega
  have h1 : 1≤hh:=by omega
  have h2 : hh≤64:=by omega
  have hm : w * hh≤64 * 64:=Nat.mul_le_mul w2 h2
  have hnew:=fun H R=>Qbi (h:=H) (R:=R) w1 w2 h1 h2
  have hls : ∀ H : Gag,(Gdc H w hh).length = H.length + 2:=fun H=>Gg1 H w hh
  have hlow : ∀ x : Option Blk,∀ id,id < h.length→blk? (Gdc (h++[x]) w hh) id = blk? h id:=fun x id hid=>by
   rw [Gee _ _ _ id (by simp; omega)]; exact hkp x id hid
  by_cases hp1 : P < 0
  ·have hr:=hbadr 2 (by unfold Gey; rw [if_pos (.inr (.inl hp1))]) (by decide)
   rw [hr]
   simp [MD.val,hnew,Gaa,Gah,hp1,Gj3]
   exact ⟨_,_,⟨rfl,rfl⟩,Gjr.bad (hlow _) (by rw [hls]; simp; omega) _⟩
  by_cases hp2 : 60 < P
  ·have hr:=hbadr 2 (by unfold Gey; rw [if_pos (.inr (.inr hp2))]) (by decide)
   rw [hr]
   simp [MD.val,hnew,Gaa,Gah,hp1,hp2,Gj3]
   exact ⟨_,_,⟨rfl,rfl⟩,Gjr.bad (hlow _) (by rw [hls]; simp; omega) _⟩
  have hne2 : ¬ (¬ sized (w : Int) (hh : Int) = true∨P < 0∨60 < P):=by rw [hsz]; simp; omega
  have hm1 : IntKind.i64.wrap (3 * P) = 3 * P:=Gan (by omega) (by omega)
  have hm2 : IntKind.i64.wrap (3 * P - 2) = 3 * P - 2:=Gan (by omega) (by omega)
  have hmx : Gci Gh1 [.int .i64 0,.int .i64 (3 * P - 2)] = some (.int .i64 (max 0 (3 * P - 2))):=by
   simp only [Gci,Gcq,Gh1]
   congr 2
   split <;> omega
  by_cases hln : max 0 (3 * P - 2) < (ls.length : Int)
  ·have hr:=hbadr 4 (by unfold Gey; rw [if_neg hne2,if_pos hln]) (by decide)
   rw [hr]
   simp [MD.val,hnew,Gaa,Gah,hp1,hp2,hs,hm1,hm2,hmx,hln,Gj3]
   exact ⟨_,_,⟨rfl,rfl⟩,Gjr.bad (hlow _) (by rw [hls]; simp; omega) _⟩
  by_cases ho1 : o < 0
  ·have hr:=hbadr 3 (by unfold Gey; rw [if_neg hne2,if_neg hln,if_pos (.inl ho1)]) (by decide)
   rw [hr]
   simp [MD.val,hnew,Gaa,Gah,hp1,hp2,hs,hm1,hm2,hmx,hln,ho1,Gj3]
   exact ⟨_,_,⟨rfl,rfl⟩,Gjr.bad (hlow _) (by rw [hls]; simp; omega) _⟩
  by_cases ho2 : 3 < o
  ·have hr:=hbadr 3 (by unfold Gey; rw [if_neg hne2,if_neg hln,if_pos (.inr ho2)]) (by decide)
   rw [hr]
   simp [MD.val,hnew,Gaa,Gah,hp1,hp2,hs,hm1,hm2,hmx,hln,ho1,ho2,Gj3]
   exact ⟨_,_,⟨rfl,rfl⟩,Gjr.bad (hlow _) (by rw [hls]; simp; omega) _⟩
  obtain ⟨P,rfl⟩:=Int.eq_ofNat_of_zero_le (show 0≤P by omega)
  obtain ⟨o,rfl⟩:=Int.eq_ofNat_of_zero_le (show 0≤o by omega)
  have herr : Gey ls.length (P : Int) w hh o = 0:=by unfold Gey; rw [if_neg hne2,if_neg hln,if_neg (by omega)]
  generalize hr : Gdy ls (P : Int) w hh o m = r
  have hr' : r = if (Gea m P o 0 (Gcb w hh) ls).2 ≠ 0 then ((Gea m P o 0 (Gcb w hh) ls).2,[],[]) else (0,(Gea m P o 0 (Gcb w hh) ls).1.cs.map (·.v),(Gea m P o 0 (Gcb w hh) ls).1.cs.map fun c=>leftOf P ls.length c.t):=by
   rw [← hr]; unfold Gdy; rw [herr,if_neg (by simp)]; simp only [Int.toNat_natCast]
  simp [MD.val,hnew,Gaa,Gah,hp1,hp2,hs,hm1,hm2,hmx,hln,ho1,ho2]
  rw [← hT]
  simp only [tlC,B28]
  generalize hH : Gdc (h++[some (⟨false,[.bool m.byp,.bool m.res,.bool m.rst,.bool m.cz,.bool m.sy]⟩ : Blk)]) w hh = H
  have hlowH : ∀ id,id < h.length→blk? H id = blk? h id:=by rw [← hH]; exact hlow _
  have hlenH : H.length = h.length + 3:=by rw [← hH,hls]; simp
  have vl : VLv h H h.length (h.length + 2) (h.length + 1) m w hh (Gcb w hh):=by
   refine ⟨hlowH,by omega,?_,?_,Gcc w1 w2 h1 h2,⟨by omega,by omega⟩,rfl,rfl,by omega⟩
   ·rw [← hH,Gee _ _ _ _ (by simp)]; exact blk?_push_eq
   ·rw [← hH]
    have:=Gib (h++[some (⟨false,[.bool m.byp,.bool m.res,.bool m.rst,.bool m.cz,.bool m.sy]⟩ : Blk)]) w1 w2 h1 h2
    simpa using this
  have hvn : (Gea m P o 0 (Gcb w hh) (ls.drop 0)) = Gea m P o 0 (Gcb w hh) ls:=rfl
  simp
  rw [← hs]
  refine Gzo (w:=w) (hh:=hh) hp (by omega) (by omega) (by omega) (by omega) ls.length 0 H (Gcb w hh) _ _ _ _ _ _ _ _ _ _ _ _ _ _ _ _ _ _ _ _ _ _ _ _ _ _ _ _ _ _ _ _ _ _ _ _ _ _ _ _ _ _ _ _ _ _ _ _ _ _ _ _ _ _ _ _ _ _ _ _ _ _ _ _ _ _ _ _ _ _ _ _ _ _ _ _ _ _ _ _ _ _ _ _ _ _ _ _ _ _ _ _ _ _ _ _ _ _ _ _ _ _ _ _ _ _ _ _ _ _ _ _ _ _ _ _ _ _ _ _ _ _ _ _ _ _ _ _ _ _ _ _ _ _ rfl (by omega) vl ?_ ?_
  ·intro H1 b';intros;rename_i hv vl1
   rw [hvn] at hv
   rw [hv] at hr'
   simp only [ne_eq,not_true_eq_false,if_false] at hr'
   have hbw:=vl1.bw
   have hbh:=vl1.bh
   have hmwi : IntKind.i64.wrap ((w : Int) * (hh : Int)) = ((w * hh : Nat) : Int):=by rw [← Int.natCast_mul]; exact Gbc (by omega)
   have hroom : ((w * hh : Nat) : Int)≤(Gaq : Int):=by unfold Gaq; omega
   have hroom0 : (0 : Int)≤((w * hh : Nat) : Int):=by omega
   generalize ((w * hh : Nat) : Int) = whi at hmwi hroom hroom0
   have lp:=blk?_lt vl1.cb.blkp
   have lc:=blk?_lt vl1.cb.blkc
   have hlen1:=vl1.len
   obtain ⟨dc,dM⟩:=vl1.d
   have dp:=vl1.dp
   have hvb : VB h (H1++[some ⟨false,[]⟩,some ⟨false,[]⟩]) (h.length + 2) (h.length + 1) b' (.slice (some ⟨H1.length,0,none⟩) 0 1) (.slice (some ⟨H1.length + 1,0,none⟩) 0 1) (Gef b' (0 * b'.w)) (Geg P ls.length b' (0 * b'.w)):=by
    refine ⟨fun id hid=>by rw [Gbf (by omega)]; exact vl1.low id hid,by simp; omega,⟨by rw [Gbf lp]; exact vl1.cb.blkp,by rw [Gbf lc]; exact vl1.cb.blkc,vl1.cb.ok⟩,⟨by simp [Gef,Gcj],.inr ⟨H1.length,by simp [Gef],?_⟩⟩,⟨by simp [Geg,Gcj],.inr ⟨H1.length + 1,by simp [Geg],?_⟩⟩,fun id hid=>?_,fun id hid=>?_,fun id hid e=>?_⟩
    ·rw [Gbe]; simp [Gef,Gcj]; rfl
    ·rw [Ga0]; simp [Geg,Gcj]; rfl
    ·simp [sid] at hid; omega
    ·simp [sid] at hid; omega
    ·simp [sid] at hid e; omega
   have fin : ∀ (pl kd : Int) (K6 K7 K8 K9 Ka Ke Kg Kh Ki Kj Kn Ko Kp Kq Kr Ks Kt Ku Kv Kw Kx Ky Kz J0 J1 J2 J3 J4 J5 J6 J7 J8 J9 Ja Jb Jc Jd Je Jf Jg Jh Ji Jj Jk Jl Jm Jn Jo Jp Jq Jr Js Jt Ju Jv Jw Jx Jy Jz Y0 Y1 Y2 Y3 Y4 Y5 Y6 Y7 Y8 Y9 Ya Yb Yc Yd Ye Yf Yg Yh Yi Yj Yk Yl Ym Yn Yo Yp Yq Yr Ys Yt Yu Yx Yy Yz Z0 Z1 Z2 Z3 Z4 Z5 Z6 Z7 Z8 Z9 Za Zb Zc Zd Ze Zf Zg Zh Zi Zj Zk Zl Zm Zn Zo Zp Zq Zr Zs Zt Zu Zv Zw Zx Zy Zz K0q : Value),(-1≤pl∧pl≤100)→(∀ t,leftOf P ls.length t = P - 1 - pl + if (decide (0 < ls.length) && kd != 2 && !t) = true then 1 else 0) →
     Ok tab R28 (.inLoop G09 :: .inBlock 2 :: [.code (.seq (.region [⟨some 143,.mov (.tmp 12),none⟩,⟨some 144,.mov (.tmp 13),none⟩,⟨some 12,.mov (.tmp 143),none⟩,⟨some 13,.mov (.tmp 144),none⟩,⟨some 14,.mov (.const (.int .i64 0)),none⟩] []) .ret)]) #[s,.int .i64 P,.int .i64 w,.int .i64 hh,.int .i64 o,.agg #[.bool m.byp,.bool m.res,.bool m.rst,.bool m.cz,.bool m.sy],K6,K7,K8,K9,Ka,ptr h.length,.slice (some ⟨H1.length,0,none⟩) 0 1,.slice (some ⟨H1.length + 1,0,none⟩) 0 1,Ke,ptr (h.length + 2),Kg,Kh,Ki,Kj,.int .i64 ls.length,.int .i64 pl,.int .i64 kd,Kn,Ko,Kp,Kq,Kr,Ks,Kt,Ku,Kv,Kw,Kx,Ky,Kz,J0,J1,J2,J3,J4,J5,J6,J7,J8,J9,Ja,Jb,Jc,Jd,Je,Jf,Jg,Jh,Ji,Jj,Jk,Jl,Jm,Jn,Jo,Jp,Jq,Jr,Js,Jt,Ju,Jv,Jw,Jx,Jy,Jz,Y0,Y1,Y2,Y3,Y4,Y5,Y6,Y7,Y8,Y9,Ya,Yb,Yc,Yd,Ye,Yf,Yg,Yh,Yi,Yj,Yk,Yl,Ym,Yn,Yo,Yp,Yq,Yr,Ys,Yt,Yu,.int .i64 hh,.int .i64 0,Yx,Yy,Yz,Z0,Z1,Z2,Z3,Z4,Z5,Z6,Z7,Z8,Z9,Za,Zb,Zc,Zd,Ze,Zf,Zg,Zh,Zi,Zj,Zk,Zl,Zm,Zn,Zo,Zp,Zq,Zr,Zs,Zt,Zu,Zv,Zw,Zx,Zy,Zz,K0q] (H1++[some ⟨false,[]⟩,some ⟨false,[]⟩])
      fun v h'=>∃ v1 v2,v = .tuple #[v1,v2,.int .i64 r.1]∧Gjr h h' v1 v2 r:=by
    intro pl kd;intros;rename_i hpl hleft
    rw [← hbw,← hbh]
    refine Gzh (P:=P) (n:=ls.length) (by omega) hpl hleft b'.h 0 _ _ _ _ _ _ _ _ _ _ _ _ _ _ _ _ _ _ _ _ _ _ _ _ _ _ _ _ _ _ _ _ _ _ _ _ _ _ _ _ _ _ _ _ _ _ _ _ _ _ _ _ _ _ _ _ _ _ _ _ _ _ _ _ _ _ _ _ _ _ _ _ _ _ _ _ _ _ _ _ _ _ _ _ _ _ _ _ _ _ _ _ _ _ _ _ _ _ _ _ _ _ _ _ _ _ _ _ _ _ _ _ _ _ _ _ _ _ _ _ _ _ _ _ _ _ _ _ _ _ _ _ _ rfl (by omega) hvb ?_
    intro H' v1' v2';intros;rename_i vb
    have hfl : b'.h * b'.w = b'.cs.length:=by rw [vl1.cb.ok.len,Nat.mul_comm]
    have ev : Gef b' (b'.h * b'.w) = b'.cs.map (·.v):=by unfold Gef; rw [List.take_of_length_le (by omega)]
    have em : Geg P ls.length b' (b'.h * b'.w) = b'.cs.map fun c=>leftOf P ls.length c.t:=by unfold Geg; rw [List.take_of_length_le (by omega)]
    rw [ev,em] at vb
    simp [Gj3]
    rw [hr']
    exact ⟨v1',v2',⟨rfl,rfl,rfl⟩,by simpa using vb.o1,by simpa using vb.o2,vb.low,vb.len,fun id hid=>hid.elim (fun x=>(vb.f1 id x).1) fun x=>(vb.f2 id x).1,vb.ne⟩
   by_cases hn0 : ls.length = 0
   ·have hw0 : IntKind.i64.wrap ((ls.length : Int) - 1) = -1:=by rw [hn0]; decide
    have hnn:=fun h R=>G35 (h:=h) (R:=R)
    have f:=fin (-1) (-1)
    simp [hs,hmwi,hroom,hroom0,hw0,hnn]
    rw [← hs]
    exact f _ _ _ _ _ _ _ _ _ _ _ _ _ _ _ _ _ _ _ _ _ _ _ _ _ _ _ _ _ _ _ _ _ _ _ _ _ _ _ _ _ _ _ _ _ _ _ _ _ _ _ _ _ _ _ _ _ _ _ _ _ _ _ _ _ _ _ _ _ _ _ _ _ _ _ _ _ _ _ _ _ _ _ _ _ _ _ _ _ _ _ _ _ _ _ _ _ _ _ _ _ _ _ _ _ _ _ _ _ _ _ _ _ _ _ _ _ _ _ _ _ _ _ _ _ _ _ _ _ _ (by omega) (fun t=>by unfold leftOf; rw [if_pos hn0]; simp [hn0])
   ·have hw0 : IntKind.i64.wrap ((ls.length : Int) - 1) = ((ls.length - 1 : Nat) : Int):=by rw [Gan (by omega) (by omega)]; omega
    have hnn:=fun h R=>Grq (h:=h) (R:=R) (n:=ls.length - 1) (by omega)
    have hpo : Gas (ls.length - 1)≤P - 1:=Gdg (by omega) (by omega)
    have f:=fin (Gas (ls.length - 1) : Nat) (kindOf (ls.length - 1) : Nat)
    have hlf : ∀ t,leftOf P ls.length t = P - 1 - ((Gas (ls.length - 1) : Nat) : Int) + if (decide (0 < ls.length) && ((kindOf (ls.length - 1) : Nat) : Int) != 2 && !t) = true then 1 else 0:=by
     intro t
     rw [Gie hn0]
     have e1 : (((kindOf (ls.length - 1) : Nat) : Int) != 2) = (kindOf (ls.length - 1) != 2):=by
      rw [Bool.eq_iff_iff]; simp; omega
     have e2 : decide (0 < ls.length) = true:=by simp; omega
     rw [e1,e2,Bool.true_and]
    have hpl2 : (-1 : Int)≤((Gas (ls.length - 1) : Nat) : Int)∧((Gas (ls.length - 1) : Nat) : Int)≤100:=by omega
    generalize ((Gas (ls.length - 1) : Nat) : Int) = pl at *
    generalize ((kindOf (ls.length - 1) : Nat) : Int) = kd at *
    generalize ((ls.length - 1 : Nat) : Int) = n1 at *
    simp [hs,hmwi,hroom,hroom0,hw0,hnn]
    rw [← hs]
    exact f _ _ _ _ _ _ _ _ _ _ _ _ _ _ _ _ _ _ _ _ _ _ _ _ _ _ _ _ _ _ _ _ _ _ _ _ _ _ _ _ _ _ _ _ _ _ _ _ _ _ _ _ _ _ _ _ _ _ _ _ _ _ _ _ _ _ _ _ _ _ _ _ _ _ _ _ _ _ _ _ _ _ _ _ _ _ _ _ _ _ _ _ _ _ _ _ _ _ _ _ _ _ _ _ _ _ _ _ _ _ _ _ _ _ _ _ _ _ _ _ _ _ _ _ _ _ _ _ _ _ hpl2 hlf
  ·intro H1 e he h0 low len
   rw [hvn] at he
   rw [he,if_pos h0] at hr'
   rw [hr']
   exact ⟨_,_,rfl,Gjr.bad low len _⟩
 obtain ⟨v,h',e,v1,v2,rfl,rs⟩:=Gck key
 exact ⟨v1,v2,h',e,rs⟩
def toI (l : List (Int × Nat)) : List (Int × Int):=l.map fun p=>(p.1,(p.2 : Int))
theorem Gvr : ∀ l : List (Int × Nat),Gje (toI l) = Ggt l
 | []=>rfl
 | p :: l=>by
  have:=Gvr l
  simp only [toI,List.map_cons] at this ⊢
  simp only [Gje,Ggt,this]
theorem RdV.psI {B : Nat} {h : Gag} {lv : Value} {ls : List (List (Int × Nat))} (r : RdV B h lv ls) : ∃ vs,PsI h lv vs (ls.map toI):=by
 obtain ⟨vs,a,b,c,_⟩:=r.ex
 refine ⟨vs,a.sl,by simp [b],fun i h1 h2=>?_,fun i h1 id hid=>(c i h1 (by omega)).lt hid⟩
 have h3 : i < ls.length:=by simpa using h2
 have e : (ls.map toI)[i] = toI ls[i]:=by simp
 rw [e,Gvr,show (toI ls[i]).length = ls[i].length by simp [toI]]
 exact (c i h1 h3).sl
def Gfr (m : MD) (pl : Int) (ps : List Int) (ds : List Nat) (n w hh o : Int) : Int × List Int × List Int :=
 if Gcx pl ps (ds.map Int.ofNat) n w hh o ≠ 0 then (Gcx pl ps (ds.map Int.ofNat) n w hh o,[],[])
 else Gdy ((Geu m pl o ps ds n.toNat w.toNat hh.toNat).ls.map toI) pl w hh o m
theorem Gj9 (m : MD) (pl o : Int) : ∀ (q i : Nat) (s : Rdg),(Gdm m pl o q i s).ls.length = s.ls.length + q
 | 0,_,s=>rfl
 | q + 1,i,s=>by simp only [Gdm]; rw [Gj9 m pl o q]; simp; omega
theorem Gqs (m : MD) (pl o : Int) (ps : List Int) (ds : List Nat) : ∀ (gs : List Nat) (beg : Nat) (s : Rdg),(Gh4 m pl o ps ds gs beg s).ls.length = s.ls.length + Gi4 gs
 | [],_,s=>rfl
 | c :: cs,beg,s=>by
  simp only [Gh4,Gi4]
  rw [Gqs m pl o ps ds cs,Gj9]
  split <;> simp <;> omega
theorem Gki (m : MD) (pl o : Int) (ps : List Int) (ds : List Nat) {n w hh : Nat} (hn : n≤178) : (Geu m pl o ps ds n w hh).ls.length = n:=by
 unfold Geu
 rw [Gqs,(Ggh hn).1]; simp
section
variable {h : Gag} {pv dv : Value} {pl : Int} {ps : List Int} {ds : List Nat} {m : MD}
theorem Ggl {n w hh o : Int} (hc : Gcx pl ps (ds.map Int.ofNat) n w hh o = 0) : Gex pl ps (ds.map Int.ofNat) = 0∧0≤n∧n≤ps.length∧1≤w∧w≤64∧1≤hh∧hh≤64∧0≤o∧o≤3:=by
 unfold Gcx at hc
 split at hc
 ·rename_i h1; exact absurd hc h1
 ·rename_i h1
  split at hc
  ·cases hc
  ·split at hc
   ·cases hc
   ·refine ⟨by simpa using h1,?_⟩; omega
theorem readC {n w hh o : Int} (hp : Rk .i64 h pv ps) (hd : Rk .u8 h dv (ds.map Int.ofNat)) (hds : ∀ x ∈ ds,x < 256) (hc : Gcx pl ps (ds.map Int.ofNat) n w hh o = 0) :
  ∃ lv h',(∀ R : RP,Ret tab 27 [.agg #[.int .i64 pl,pv,dv],.int .i64 n,.int .i64 w,.int .i64 hh,.int .i64 o,m.val] h R = R (.tuple #[lv,.int .i64 (Geu m pl o ps ds n.toNat w.toNat hh.toNat).snd,.int .i64 0]) h') ∧
   RdV h.length h' lv (Geu m pl o ps ds n.toNat w.toNat hh.toNat).ls∧(∀ id,id < h.length→blk? h' id = blk? h id)∧h.length≤h'.length:=by
 obtain ⟨hv,n0,n1,w1,w2,h1,h2,o0,o1⟩:=Ggl hc
 obtain ⟨p0,p1,p2,_,p4⟩:=Ge7 hv
 obtain ⟨z0,z1⟩:=G3d hv
 simp only [List.length_map] at z1 p4
 obtain ⟨n,rfl⟩:=Int.eq_ofNat_of_zero_le n0
 obtain ⟨w,rfl⟩:=Int.eq_ofNat_of_zero_le (show 0≤w by omega)
 obtain ⟨hh,rfl⟩:=Int.eq_ofNat_of_zero_le (show 0≤hh by omega)
 simp only [Int.toNat_natCast]
 exact read_c m hp hd z0 z1 (by omega) hds (by omega) (by omega) (by omega) (by omega) (by omega) (by omega)
theorem Gv5 {n w hh o : Int} (hp : Rk .i64 h pv ps) (hd : Rk .u8 h dv (ds.map Int.ofNat)) (hds : ∀ x ∈ ds,x < 256) (hl : ps.length < 1000000) (hdl : ds.length < 1000000000) :
  ∃ v1 v2 h',(∀ R : RP,Ret tab 11 [.agg #[.int .i64 pl,pv,dv],.int .i64 n,.int .i64 w,.int .i64 hh,.int .i64 o,m.val] h R = R (.tuple #[v1,v2,.int .i64 (Gfr m pl ps ds n w hh o).1]) h')∧Gjr h h' v1 v2 (Gfr m pl ps ds n w hh o):=by
 have key : ∀ R0 : RP,(∀ v1 v2 h',Gjr h h' v1 v2 (Gfr m pl ps ds n w hh o)→R0 (.tuple #[v1,v2,.int .i64 (Gfr m pl ps ds n w hh o).1]) h')→Ret tab 11 [.agg #[.int .i64 pl,pv,dv],.int .i64 n,.int .i64 w,.int .i64 hh,.int .i64 o,m.val] h R0:=by
  intro R0 hR
  generalize hH : h++[some (⟨false,[.int .i64 pl,pv,dv]⟩ : Blk),some ⟨false,[.bool m.byp,.bool m.res,.bool m.rst,.bool m.cz,.bool m.sy]⟩] = H
  have lH : H.length = h.length + 2:=by rw [← hH]; simp
  have kH : ∀ id,id < h.length→blk? H id = blk? h id:=fun id hid=>by rw [← hH]; exact Gbf hid
  have b0 : blk? H h.length = some ⟨false,[.int .i64 pl,pv,dv]⟩:=by rw [← hH,Gbe]; rfl
  have b1 : blk? H (h.length + 1) = some ⟨false,[.bool m.byp,.bool m.res,.bool m.rst,.bool m.cz,.bool m.sy]⟩:=by rw [← hH,Ga0]; rfl
  have hpH : Rk .i64 H pv ps:=by rw [← hH]; exact hp.push _
  have hdH : Rk .u8 H dv (ds.map Int.ofNat):=by rw [← hH]; exact hd.push _
  obtain ⟨H1,e1,k1,l1⟩:=G8q (m:=m) (pl:=pl) hpH hdH hl (by rw [List.length_map]; exact hdl) n w hh o
  have b01 : blk? H1 h.length = some ⟨false,[.int .i64 pl,pv,dv]⟩:=by rw [k1 _ (by omega)]; exact b0
  have b11 : blk? H1 (h.length + 1) = some ⟨false,[.bool m.byp,.bool m.res,.bool m.rst,.bool m.cz,.bool m.sy]⟩:=by rw [k1 _ (by omega)]; exact b1
  simp only [MD.val] at e1
  rw [G99,B11]
  by_cases hc : Gcx pl ps (ds.map Int.ofNat) n w hh o = 0
  case neg =>
   have hc' : (Gcx pl ps (ds.map Int.ofNat) n w hh o != 0) = true:=by simpa using hc
   have e : Gfr m pl ps ds n w hh o = (Gcx pl ps (ds.map Int.ofNat) n w hh o,[],[]):=by unfold Gfr; rw [if_pos hc]
   rw [e] at hR
   simp [MD.val,hH,b0,b1,e1,hc',Qd7]
   exact hR _ _ _ (Gjr.bad (fun id hid=>by rw [k1 id (by omega),kH id hid]) (by omega) _)
  have hc' : (Gcx pl ps (ds.map Int.ofNat) n w hh o != 0) = false:=by simpa using hc
  have e : Gfr m pl ps ds n w hh o = Gdy ((Geu m pl o ps ds n.toNat w.toNat hh.toNat).ls.map toI) pl w hh o m:=by unfold Gfr; rw [if_neg (by simp [hc])]
  rw [e] at hR
  obtain ⟨hv,_⟩:=Ggl hc
  obtain ⟨p0,p1,p2,_,p4⟩:=Ge7 hv
  have hp1 : Rk .i64 H1 pv ps:=hpH.keep l1 fun id hid _=>k1 id hid
  have hd1 : Rk .u8 H1 dv (ds.map Int.ofNat):=hdH.keep l1 fun id hid _=>k1 id hid
  obtain ⟨lv,H2,e2,r2,k2,l2⟩:=readC (m:=m) hp1 hd1 hds hc
  obtain ⟨vs,q2⟩:=r2.psI
  have b02 : blk? H2 h.length = some ⟨false,[.int .i64 pl,pv,dv]⟩:=by rw [k2 _ (by omega)]; exact b01
  have b12 : blk? H2 (h.length + 1) = some ⟨false,[.bool m.byp,.bool m.res,.bool m.rst,.bool m.cz,.bool m.sy]⟩:=by rw [k2 _ (by omega)]; exact b11
  have hlen : (Geu m pl o ps ds n.toNat w.toNat hh.toNat).ls.length < 100000:=by
   obtain ⟨_,c1,c2,_⟩:=Ggl hc
   rw [Gki m pl o ps ds (by omega)]; omega
  obtain ⟨v1,v2,H3,e3,V3⟩:=G5n q2 (by simpa using hlen) pl w hh o (by omega) m
  simp only [MD.val] at e2 e3
  simp [MD.val,hH,b0,b1,e1,hc',b01,b11,e2,b02,b12,e3,Qd7]
  exact hR _ _ _ ⟨V3.o1,V3.o2,fun id hid=>by rw [V3.low id (by omega),k2 id (by omega),k1 id (by omega),kH id hid],by have:=V3.len; omega,fun id hid=>by have:=V3.fr id hid; omega,V3.ne⟩
 obtain ⟨v,h',e,v1,v2,rfl,a⟩:=Gck (key (fun v h'=>∃ v1 v2,v = .tuple #[v1,v2,.int .i64 (Gfr m pl ps ds n w hh o).1]∧Gjr h h' v1 v2 (Gfr m pl ps ds n w hh o)) fun v1 v2 h' a=>⟨v1,v2,rfl,a⟩)
 exact ⟨v1,v2,h',e,a⟩
def sndP (m : MD) (pl : Int) (ps : List Int) (ds : List Nat) (n w hh o : Int) : Int × Int :=
 if Gcx pl ps (ds.map Int.ofNat) n w hh o ≠ 0 then (0,Gcx pl ps (ds.map Int.ofNat) n w hh o)
 else if m.sy = false then (n,0) else ((Geu m pl o ps ds n.toNat w.toNat hh.toNat).snd,0)
end
theorem Gze {α : Type} {Q : α→Prop} : ∀ {t : Tr α} {n : Nat} {l l' : List (Int × Int)} {a : α},t.Lv Q n→t.play l = some (a,l')→Q a
 | .ret a,n,l,l',a',h,hp=>by
  simp only [Tr.play,Option.some.injEq,Prod.mk.injEq] at hp
  unfold Tr.Lv at h
  rw [← hp.1]; exact h
 | .ask c k,0,l,l',a,h,hp=>by simp [Tr.Lv] at h
 | .ask c k,n + 1,[],l',a,h,hp=>by simp [Tr.play] at hp
 | .ask c k,n + 1,p :: l,l',a,h,hp=>by
  unfold Tr.Lv at h
  rw [Tr.play] at hp
  split at hp
  ·exact Gze (h _) hp
  ·cases hp
theorem Gpe {m : MD} {planes o : Nat} (hpl : planes≤60) (h1 : 1≤planes) (ho : o≤3) : ∀ (ls : List (List (Int × Int))) (n : Nat) (b : BS),b.Good→b.Le (Gea m planes o n b ls).1
 | [],n,b,hg=>BS.Le.refl hg
 | l :: ls,n,b,hg=>by
  rw [Gea]
  cases hp : (Gn2 m b n planes o).play l with
  | none=>exact BS.Le.refl hg
  | some r =>
   obtain ⟨r,l'⟩:=r
   have hle : b.Le r.1:=Gze (Q:=fun r : BS × Bool=>b.Le r.1) (Gsp (m:=m) (n:=n) hg (Gjh hpl h1 ho)) hp
   simp only
   split
   ·exact hle
   ·cases l' with
    | nil=>exact hle.trans (Gpe hpl h1 ho ls (n + 1) r.1 hle.good)
    | cons x l'=>exact hle
theorem G6a (m : MD) (pl : Int) (ps : List Int) (ds : List Nat) (n w hh o : Int) : (Gfr m pl ps ds n w hh o).2.1.length≤4096∧(Gfr m pl ps ds n w hh o).2.2.length≤4096:=by
 unfold Gfr
 split
 ·simp
 rename_i hc
 have hc : Gcx pl ps (ds.map Int.ofNat) n w hh o = 0:=by simpa using hc
 obtain ⟨hv,n0,n1,w1,w2,h1,h2,o0,o1⟩:=Ggl hc
 obtain ⟨p0,p1,p2,_,p4⟩:=Ge7 hv
 generalize hls : (Geu m pl o ps ds n.toNat w.toNat hh.toNat).ls.map toI = ls
 have hlen : ls.length = n.toNat:=by rw [← hls,List.length_map,Gki m pl o ps ds (by omega)]
 unfold Gdy
 split
 ·simp
 ·have hg : (Gcb w.toNat hh.toNat).Good:=Gcc (by omega) (by omega) (by omega) (by omega)
  have hle : (Gcb w.toNat hh.toNat).Le (Gea m pl.toNat o.toNat 0 (Gcb w.toNat hh.toNat) ls).1:=by
   by_cases hp : pl = 0
   ·have : ls = []:=List.length_eq_zero_iff.1 (by omega)
    rw [this]; exact BS.Le.refl hg
   ·exact Gpe (by omega) (by omega) (by omega) ls 0 _ hg
  have hcl:=hle.good.ok.len
  rw [hle.w,hle.h] at hcl
  have hm : w.toNat * hh.toNat≤64 * 64:=Nat.mul_le_mul (by omega) (by omega)
  have e : (Gcb w.toNat hh.toNat).w * (Gcb w.toNat hh.toNat).h = w.toNat * hh.toNat:=rfl
  simp only
  split
  ·simp
  ·simp only [List.length_map]
   constructor <;> omega
def uv (s : Int) (vs ks : List Int) : List Int:=List.zipWith (fun v k=>(Gr1 v k s).1) vs ks
def uk (s : Int) (vs ks : List Int) : List Int:=List.zipWith (fun v k=>(Gr1 v k s).2) vs ks
def Gy7 (m : MD) (pl : Int) (ps : List Int) (ds : List Nat) (w hh o : Int) (cs : List Int) (a b wt s : Int) (n : Nat) : Int × Int :=
 if (Gfr m pl ps ds n w hh o).1 ≠ 0 then (0,(Gfr m pl ps ds n w hh o).1) else Gms a b wt cs (uv s (Gfr m pl ps ds n w hh o).2.1 (Gfr m pl ps ds n w hh o).2.2) (uk s (Gfr m pl ps ds n w hh o).2.1 (Gfr m pl ps ds n w hh o).2.2)
def Gkt (ps : List Int) (n : Nat) : Int:=if n = 0 then 0 else ps.getD (n - 1) 0
def Gl0 (aft : Nat→Int × Int) (ps : List Int) : Nat→Nat→List Int→List Int→Int × List Int × List Int
 | 0,_,r,d=>(0,r,d)
 | k + 1,n,r,d=>if (aft n).2 ≠ 0 then ((aft n).2,[],[]) else Gl0 aft ps k (n + 1) (r++[Gkt ps n]) (d++[(aft n).1])
def Gpv (m : MD) (pl : Int) (ps : List Int) (ds : List Nat) (w hh o : Int) (cs : List Int) (a b wt s : Int) : Int × List Int × List Int :=
 if (Gfr m pl ps ds 0 w hh o).1 ≠ 0 then ((Gfr m pl ps ds 0 w hh o).1,[],[]) else if (cs.length : Int) ≠ w * hh then (4,[],[])
 else if ¬ QOk a b∨wt < 0∨16 < wt∨s < 0∨30 < s then (2,[],[]) else Gl0 (Gy7 m pl ps ds w hh o cs a b wt s) ps (ps.length + 1) 0 [] []
theorem Gxz {P : Int} {n : Nat} (h0 : 0≤P) (h1 : P≤60) (hn : n≤200) (t : Bool) : -1000≤leftOf P n t∧leftOf P n t≤1000:=by
 unfold leftOf
 have:=Gdg (n:=n - 1) (planes:=n) (by omega)
 split
 ·omega
 ·have:=this (by omega)
  split <;> omega
theorem G5a (m : MD) (pl : Int) (ps : List Int) (ds : List Nat) (n w hh o : Int) : (Gfr m pl ps ds n w hh o).2.2.length = (Gfr m pl ps ds n w hh o).2.1.length∧(∀ v ∈ (Gfr m pl ps ds n w hh o).2.1,-1152921504606846976 < v∧v < 1152921504606846976) ∧
  (∀ k ∈ (Gfr m pl ps ds n w hh o).2.2,-1000≤k∧k≤1000):=by
 unfold Gfr
 split
 ·simp
 rename_i hc
 have hc : Gcx pl ps (ds.map Int.ofNat) n w hh o = 0:=by simpa using hc
 obtain ⟨hv,n0,n1,w1,w2,h1,h2,o0,o1⟩:=Ggl hc
 obtain ⟨p0,p1,p2,_,p4⟩:=Ge7 hv
 generalize hls : (Geu m pl o ps ds n.toNat w.toNat hh.toNat).ls.map toI = ls
 have hlen : ls.length = n.toNat:=by rw [← hls,List.length_map,Gki m pl o ps ds (by omega)]
 unfold Gdy
 split
 ·simp
 ·have hg : (Gcb w.toNat hh.toNat).Good:=Gcc (by omega) (by omega) (by omega) (by omega)
  have hle : (Gcb w.toNat hh.toNat).Le (Gea m pl.toNat o.toNat 0 (Gcb w.toNat hh.toNat) ls).1:=by
   by_cases hp : pl = 0
   ·have : ls = []:=List.length_eq_zero_iff.1 (by omega)
    rw [this]; exact BS.Le.refl hg
   ·exact Gpe (by omega) (by omega) (by omega) ls 0 _ hg
  simp only
  split
  ·simp
  ·have gd:=hle.good
   generalize (Gea m pl.toNat o.toNat 0 (Gcb w.toNat hh.toNat) ls).1 = b at *
   refine ⟨by simp,fun v hv=>?_,fun k hk=>?_⟩
   ·obtain ⟨c,hc,rfl⟩:=List.mem_map.1 hv
    obtain ⟨i,hi,rfl⟩:=List.mem_iff_getElem.1 hc
    have hw0:=gd.ok.w1
    have hl:=gd.ok.len
    have hy : i / b.w < b.h:=by
     apply Nat.div_lt_of_lt_mul; omega
    obtain ⟨q1,q2⟩:=G1j gd.ok (x:=i % b.w) (y:=i / b.w) (Nat.mod_lt _ (by omega)) hy
    have he : i / b.w * b.w + i % b.w = i:=by rw [Nat.mul_comm]; exact Nat.div_add_mod i b.w
    rw [he,List.getElem?_eq_getElem hi] at q2
    injection q2 with q2
    rw [q2]
    exact gd.rng _ _
   ·obtain ⟨c,hc,rfl⟩:=List.mem_map.1 hk
    exact Gxz p0 p1 (by omega) _
theorem Gq8 (s : Int) (vs ks : List Int) (h : ks.length = vs.length) : (uv s vs ks).length = vs.length∧(uk s vs ks).length = vs.length:=by
 unfold uv uk
 rw [List.length_zipWith,List.length_zipWith]; omega
theorem Gyf (s : Int) (vs ks : List Int) (h : ks.length = vs.length) {i : Nat} (hi : i < vs.length) : (uv s vs ks)[i]'(by rw [(Gq8 s vs ks h).1]; exact hi) = (Gr1 vs[i] (ks[i]'(by omega)) s).1∧(uk s vs ks)[i]'(by rw [(Gq8 s vs ks h).2]; exact hi) = (Gr1 vs[i] (ks[i]'(by omega)) s).2:=by
 unfold uv uk
 simp
theorem Gv6 {v : Int} (h1 : -9223372036854775808≤v) (h2 : v < 9223372036854775808) : (Lit.int .i64 v).wf = true:=by
 simp [Lit.wf,IntKind.min,IntKind.max,IntKind.signed,IntKind.bits]; omega
theorem uv_wf (s : Int) {vs ks : List Int} (h : ks.length = vs.length) (hv : ∀ v ∈ vs,-1152921504606846976 < v∧v < 1152921504606846976) (hk : ∀ k ∈ ks,-1000≤k∧k≤1000) :
  (∀ v ∈ uv s vs ks,(Lit.int .i64 v).wf = true)∧(∀ v ∈ uk s vs ks,(Lit.int .i64 v).wf = true):=by
 obtain ⟨l1,l2⟩:=Gq8 s vs ks h
 refine ⟨fun v hm=>?_,fun v hm=>?_⟩ <;> obtain ⟨i,hi,rfl⟩:=List.mem_iff_getElem.1 hm
 ·have hi' : i < vs.length:=by omega
  have a:=hv vs[i] (List.getElem_mem hi')
  have b:=hk (ks[i]'(by omega)) (List.getElem_mem _)
  rw [(Gyf s vs ks h hi').1]
  have:=(Gve (v:=vs[i]) (m:=ks[i]'(by omega)) (s:=s) (by omega) (by omega) (by omega) (by omega)).1
  exact Gv6 this.1 this.2
 ·have hi' : i < vs.length:=by omega
  have a:=hv vs[i] (List.getElem_mem hi')
  have b:=hk (ks[i]'(by omega)) (List.getElem_mem _)
  rw [(Gyf s vs ks h hi').2]
  have:=(Gve (v:=vs[i]) (m:=ks[i]'(by omega)) (s:=s) (by omega) (by omega) (by omega) (by omega)).2
  exact Gv6 this.1 this.2
theorem G0p {us vs : List Int} (hl : us.length = vs.length) {i : Nat} (hi : i < vs.length) : (us.take i++vs.drop i).set i (us[i]'(by omega)) = us.take (i + 1)++vs.drop (i + 1):=by
 rw [List.set_append,List.length_take,if_neg (by omega),show i - min i us.length = 0 from by omega,List.drop_eq_getElem_cons hi,List.set_cons_zero,List.take_succ_eq_append_getElem (by omega),List.append_assoc]
 rfl
theorem Gy5 {us vs : List Int} (hl : us.length = vs.length) {i : Nat} (hi : i < vs.length) : (us.take i++vs.drop i)[i]? = some vs[i]:=by
 rw [List.getElem?_append_right (by rw [List.length_take]; omega),List.length_take,show i - min i us.length = 0 from by omega,List.drop_eq_getElem_cons hi]
 rfl
theorem Go2 {us vs : List Int} (hl : us.length = vs.length) {i : Nat} (hi : i≤vs.length) : (us.take i++vs.drop i).length = vs.length:=by
 rw [List.length_append,List.length_take,List.length_drop]; omega
theorem G2d (xs : List Int) : (Gcj xs).length = xs.length:=by simp [Gcj]
theorem Gux (l : List Int) (i : Nat) (x : Int) : (Gcj l).set i (.int .i64 x) = Gcj (l.set i x):=by
 unfold Gcj; rw [List.map_set]
structure CuB (h : Gag) (B : Nat) (cv pv dv : Value) (pl w hh o a b wt s : Int) (m : MD) : Prop where
 b0 : blk? h B = some ⟨false,[cv]⟩
 b1 : blk? h (B + 1) = some ⟨false,[.int .i64 pl,pv,dv]⟩
 b2 : blk? h (B + 2) = some ⟨false,[.int .i64 w]⟩
 b3 : blk? h (B + 3) = some ⟨false,[.int .i64 hh]⟩
 b4 : blk? h (B + 4) = some ⟨false,[.int .i64 o]⟩
 b5 : blk? h (B + 5) = some ⟨false,[.bool m.byp,.bool m.res,.bool m.rst,.bool m.cz,.bool m.sy]⟩
 b6 : blk? h (B + 6) = some ⟨false,[.int .i64 a]⟩
 b7 : blk? h (B + 7) = some ⟨false,[.int .i64 b]⟩
 b8 : blk? h (B + 8) = some ⟨false,[.int .i64 wt]⟩
 b9 : blk? h (B + 9) = some ⟨false,[.int .i64 s]⟩
theorem CuB.keep {h h' : Gag} {B : Nat} {cv pv dv : Value} {pl w hh o a b wt s : Int} {m : MD} (c : CuB h B cv pv dv pl w hh o a b wt s m) (hk : ∀ id,id < h.length→blk? h' id = blk? h id) : CuB h' B cv pv dv pl w hh o a b wt s m :=
 ⟨by rw [hk _ (blk?_lt c.b0)]; exact c.b0,by rw [hk _ (blk?_lt c.b1)]; exact c.b1,by rw [hk _ (blk?_lt c.b2)]; exact c.b2,by rw [hk _ (blk?_lt c.b3)]; exact c.b3,by rw [hk _ (blk?_lt c.b4)]; exact c.b4,by rw [hk _ (blk?_lt c.b5)]; exact c.b5,by rw [hk _ (blk?_lt c.b6)]; exact c.b6,by rw [hk _ (blk?_lt c.b7)]; exact c.b7,by rw [hk _ (blk?_lt c.b8)]; exact c.b8,by rw [hk _ (blk?_lt c.b9)]; exact c.b9⟩
section
variable {R : RP}
theorem G4i {vs ks : List Int} {s : Int} (hl : ks.length = vs.length) (hN : vs.length≤4096) (hv : ∀ v ∈ vs,-1152921504606846976 < v∧v < 1152921504606846976) {h0 : Gag} {v1 v2 p7 p8 p9 pa : Value} (fr : ∀ id,sid v1 = some id∨sid v2 = some id→h0.length≤id) (ne : ∀ id,sid v1 = some id→sid v2 ≠ some id)
  {X : Nat} (hX : blk? h0 X = some ⟨false,[.int .i64 s]⟩) {K : List Ga1}
  (hK : ∀ (H : Gag) (K0 K1 K2 K3 K4 K5 K6 Kb Kc Kd Kg Kh Ki Kj Kk Kl Km Kn Ko Kp Kq Kr Ks Kt Ku Kv Kw Kx Ky Kz J0 J1 J2 J3 J4 J5 J6 J7 J8 J9 Ja Jb Jc Jd Je Jf Jg Jh Ji Jj Jk Jl Jm Jn Jo Jp Jq Jr Js Jt : Value),Ga7 H 1 v1 vs.length (Gcj (uv s vs ks))→Ga7 H 1 v2 vs.length (Gcj (uk s vs ks))→(∀ id,id < h0.length→blk? H id = blk? h0 id)→h0.length≤H.length →
   Ok tab R99 K #[K0,K1,K2,K3,K4,K5,K6,p7,p8,p9,pa,Kb,Kc,Kd,v1,v2,Kg,Kh,Ki,Kj,Kk,Kl,Km,Kn,Ko,Kp,Kq,Kr,Ks,Kt,Ku,Kv,Kw,Kx,Ky,Kz,J0,J1,J2,J3,J4,J5,J6,J7,J8,J9,Ja,Jb,Jc,Jd,Je,Jf,Jg,Jh,Ji,Jj,Jk,Jl,Jm,Jn,Jo,Jp,Jq,Jr,Js,Jt] H R) :
  ∀ (j i : Nat) (H : Gag) (K0 K1 K2 K3 K4 K5 Kb Kc Kd Kg Kh Ki Kj Kk Kl Km Kn Ko Kp Kq Kr Ks Kt Ku Kv Kw Kz J0 J1 J2 J3 J4 J5 J6 J7 J8 J9 Ja Jb Jc Jd Je Jf Jg Jh Ji Jj Jk Jl Jm Jn Jo Jp Jq Jr Js Jt : Value),i + j = vs.length→Ga7 H 1 v1 vs.length (Gcj ((uv s vs ks).take i++vs.drop i))→Ga7 H 1 v2 vs.length (Gcj ((uk s vs ks).take i++ks.drop i))→(∀ id,id < h0.length→blk? H id = blk? h0 id)→h0.length≤H.length →
   Ok tab R99 (.inLoop G4l :: .inBlock 0 :: K) #[K0,K1,K2,K3,K4,K5,ptr X,p7,p8,p9,pa,Kb,Kc,Kd,v1,v2,Kg,Kh,Ki,Kj,Kk,Kl,Km,Kn,Ko,Kp,Kq,Kr,Ks,Kt,Ku,Kv,Kw,.int .i64 (vs.length : Nat),.int .i64 (i : Nat),Kz,J0,J1,J2,J3,J4,J5,J6,J7,J8,J9,Ja,Jb,Jc,Jd,Je,Jf,Jg,Jh,Ji,Jj,Jk,Jl,Jm,Jn,Jo,Jp,Jq,Jr,Js,Jt] H R:=by
 obtain ⟨ul1,ul2⟩:=Gq8 s vs ks hl
 intro j
 induction j with
 | zero =>
  intro i H;intros;rename_i hi o1 o2 low len
  obtain rfl : i = vs.length:=by omega
  rw [← ul1,List.take_length,ul1,List.drop_length,List.append_nil] at o1
  rw [← ul2,List.take_length,ul2,← hl,List.drop_length,List.append_nil,hl] at o2
  rw [Gad,Qdk,Gvf,Gvq]
  simp
  exact hK H _ _ _ _ _ _ _ _ _ _ _ _ _ _ _ _ _ _ _ _ _ _ _ _ _ _ _ _ _ _ _ _ _ _ _ _ _ _ _ _ _ _ _ _ _ _ _ _ _ _ _ _ _ _ _ _ _ _ _ _ o1 o2 low len
 | succ j ih =>
  intro i H;intros;rename_i hi o1 o2 low len
  have hil : i < vs.length:=by omega
  have hik : i < ks.length:=by omega
  have hlt : (i : Int) < (vs.length : Int):=by omega
  have hw : IntKind.i64.wrap ((i : Int) + 1) = ((i + 1 : Nat) : Int):=Gbc (n:=i + 1) (by omega)
  obtain ⟨i1,rfl,hb1⟩:=o1.ne_nil (by omega)
  obtain ⟨i2,rfl,hb2⟩:=o2.ne_nil (by omega)
  have n12 : i1 ≠ i2:=fun e=>ne i1 (by simp [sid]) (by simp [sid,e])
  have f1:=fr i1 (.inl (by simp [sid]))
  have f2:=fr i2 (.inr (by simp [sid]))
  have hv0:=hv vs[i] (List.getElem_mem hil)
  have hu:=fun (H : Gag) R=>uns_c (h:=H) (R:=R) (v:=vs[i]) (m:=ks[i]) (s:=s) (by omega) (by omega)
  obtain ⟨g1,g2⟩:=Gyf s vs ks hl hil
  have c1 : (Gcj ((uv s vs ks).take i++vs.drop i))[i]? = some (.int .i64 vs[i]):=by unfold Gcj; rw [List.getElem?_map,Gy5 ul1 hil]; rfl
  have c2 : (Gcj ((uk s vs ks).take i++ks.drop i))[i]? = some (.int .i64 ks[i]):=by unfold Gcj; rw [List.getElem?_map,Gy5 (by omega) hik]; rfl
  have s1:=Gux ((uv s vs ks).take i++vs.drop i) i (uv s vs ks)[i]
  have s2:=Gux ((uk s vs ks).take i++ks.drop i) i (uk s vs ks)[i]
  rw [G0p ul1 hil,g1] at s1
  rw [G0p (by omega) hik,g2] at s2
  have l1 : (Gcj ((uv s vs ks).take i++vs.drop i)).length = vs.length:=by rw [G2d,Go2 ul1 (by omega)]
  have l2 : (Gcj ((uk s vs ks).take i++ks.drop i)).length = vs.length:=by rw [G2d,Go2 (by omega) (by omega)]; omega
  have hXH : blk? H X = some ⟨false,[.int .i64 s]⟩:=by rw [low _ (blk?_lt hX)]; exact hX
  have li1:=blk?_lt hb1
  have li2:=blk?_lt hb2
  generalize hS1 : H.set i1 (some ⟨false,Gcj ((uv s vs ks).take (i + 1)++vs.drop (i + 1))⟩) = H1
  have hb2' : blk? H1 i2 = some ⟨false,Gcj ((uk s vs ks).take i++ks.drop i)⟩:=by rw [← hS1,blk?_set_ne n12]; exact hb2
  generalize hS2 : H1.set i2 (some ⟨false,Gcj ((uk s vs ks).take (i + 1)++ks.drop (i + 1))⟩) = H2
  have ll1 : H1.length = H.length:=by rw [← hS1]; simp
  have ll2 : H2.length = H.length:=by rw [← hS2]; simp [ll1]
  have k2 : ∀ id,id ≠ i1→id ≠ i2→blk? H2 id = blk? H id:=fun id h1 h2=>by rw [← hS2,blk?_set_ne (Ne.symm h2),← hS1,blk?_set_ne (Ne.symm h1)]
  have ih':=fun K0 K1 K2 K3 K4 K5 Kb Kc Kd Kg Kh Ki Kj Kk Kl Km Kn Ko Kp Kq Kr Ks Kt Ku Kv Kw Kz J0 J1 J2 J3 J4 J5 J6 J7 J8 J9 Ja Jb Jc Jd Je Jf Jg Jh Ji Jj Jk Jl Jm Jn Jo Jp Jq Jr Js Jt=>ih (i + 1) H2 K0 K1 K2 K3 K4 K5 Kb Kc Kd Kg Kh Ki Kj Kk Kl Km Kn Ko Kp Kq Kr Ks Kt Ku Kv Kw Kz J0 J1 J2 J3 J4 J5 J6 J7 J8 J9 Ja Jb Jc Jd Je Jf Jg Jh Ji Jj Jk Jl Jm Jn Jo Jp Jq Jr Js Jt (by omega)
   ⟨by rw [G2d,Go2 ul1 (by omega)]; omega,.inr ⟨i1,by simp,by rw [← hS2,blk?_set_ne (Ne.symm n12),← hS1,blk?_set_eq li1]⟩⟩
   ⟨by rw [G2d,Go2 (by omega) (by omega)]; omega,.inr ⟨i2,by simp,by rw [← hS2,blk?_set_eq (by omega)]⟩⟩
   (fun id hid=>by rw [k2 id (by omega) (by omega),low id hid]) (by omega)
  have d1:=Ge6 c1
  have d2:=Ge6 c2
  generalize Gcj ((uv s vs ks).take i++vs.drop i) = C1 at *
  generalize Gcj ((uk s vs ks).take i++ks.drop i) = C2 at *
  generalize Gcj ((uv s vs ks).take (i + 1)++vs.drop (i + 1)) = E1 at *
  generalize Gcj ((uk s vs ks).take (i + 1)++ks.drop (i + 1)) = E2 at *
  generalize ((i + 1 : Nat) : Int) = ii at *
  generalize (Gr1 vs[i] ks[i] s).1 = x1 at *
  generalize (Gr1 vs[i] ks[i] s).2 = x2 at *
  have t1 : i + 1≤C1.length:=by omega
  have t2 : i + 1≤C2.length:=by omega
  have t1' : i < C1.length:=by omega
  have t2' : i < C2.length:=by omega
  rw [Gad,Qdk,Gvf,Gvq]
  simp [hlt,hb1,hb2,c1,c2,d1,d2,hXH,hu,t1,t2,t1',t2',s1,s2,hS1,hb2',hS2,hw]
  exact ih' ..
end
section
variable {h : Gag} {B : Nat} {cv pv dv : Value} {pl w hh o a b wt s : Int} {m : MD} {ps cs : List Int} {ds : List Nat}
theorem Qbn (n : Nat) (c : CuB h B cv pv dv pl w hh o a b wt s m) (hp : Rk .i64 h pv ps) (hd : Rk .u8 h dv (ds.map Int.ofNat)) (hc : Rk .i64 h cv cs) (hds : ∀ x ∈ ds,x < 256) (hl : ps.length < 1000000) (hdl : ds.length < 1000000000) :
  Grb 99 [.int .i64 (n : Nat),ptr (B + 1),ptr (B + 2),ptr (B + 3),ptr (B + 4),ptr (B + 5),ptr (B + 9),ptr B,ptr (B + 6),ptr (B + 7),ptr (B + 8)] h (.tuple #[.int .i64 (Gy7 m pl ps ds w hh o cs a b wt s n).1,.int .i64 (Gy7 m pl ps ds w hh o cs a b wt s n).2]):=by
 refine Grb.mk fun R0 hR=>?_
 obtain ⟨v1,v2,H1,e1,V⟩:=Gv5 (m:=m) (pl:=pl) (n:=(n : Int)) (w:=w) (hh:=hh) (o:=o) hp hd hds hl hdl
 obtain ⟨q1,q2,q3⟩:=G5a m pl ps ds (n : Int) w hh o
 obtain ⟨q4,_⟩:=G6a m pl ps ds (n : Int) w hh o
 have c1:=c.keep V.low
 have hc1 : Rk .i64 H1 cv cs:=hc.keep V.len fun id hid _=>V.low id hid
 have lo:=V.low
 have le:=V.len
 have o1:=V.o1
 have o2:=V.o2
 have fr:=V.fr
 have ne:=V.ne
 unfold Gy7 at hR
 clear V
 generalize Gfr m pl ps ds (n : Int) w hh o = r at *
 obtain ⟨r0,vs,ks⟩:=r
 simp only at e1 q1 q2 q3 q4 hR o1 o2
 simp only [MD.val] at e1
 obtain ⟨b0,b1,b2,b3,b4,b5,b6,b7,b8,b9⟩:=c
 obtain ⟨d0,d1,d2,d3,d4,d5,d6,d7,d8,d9⟩:=c1
 rw [G9p,show B99 = .seq (Gau 0 B99) (.seq (Gau 1 B99) (.seq (Gau 2 B99) (.seq (Gau 3 B99) (tlC 4 B99)))) from rfl]
 generalize hT : tlC 4 B99 = tl
 simp only [Gau,tlC,Gd5,B99]
 by_cases h0 : r0 = 0
 case neg =>
  have h0' : (r0 != 0) = true:=by simpa using h0
  rw [if_pos h0] at hR
  simp [b1,b2,b3,b4,b5,e1,h0',Qcn]
  exact hR H1 lo le
 rw [if_neg (by simp [h0])] at hR
 subst h0
 obtain ⟨ul1,ul2⟩:=Gq8 s vs ks q1
 obtain ⟨w1,w2⟩:=uv_wf s q1 q2 q3
 rw [q1] at o2
 have hL:=fun K0 K1 K2 K3 K4 K5 Kb Kc Kd Kg Kh Ki Kj Kk Kl Km Kn Ko Kp Kq Kr Ks Kt Ku Kv Kw Kz J0 J1 J2 J3 J4 J5 J6 J7 J8 J9 Ja Jb Jc Jd Je Jf Jg Jh Ji Jj Jk Jl Jm Jn Jo Jp Jq Jr Js Jt=>G4i (R:=R0) (vs:=vs) (ks:=ks) (s:=s) (p7:=ptr B) (p8:=ptr (B + 6)) (p9:=ptr (B + 7)) (pa:=ptr (B + 8)) (K:=[.code tl]) q1 q4 q2 (h0:=h) (X:=B + 9) fr ne b9
  (fun H K0 K1 K2 K3 K4 K5 K6 Kb Kc Kd Kg Kh Ki Kj Kk Kl Km Kn Ko Kp Kq Kr Ks Kt Ku Kv Kw Kx Ky Kz J0 J1 J2 J3 J4 J5 J6 J7 J8 J9 Ja Jb Jc Jd Je Jf Jg Jh Ji Jj Jk Jl Jm Jn Jo Jp Jq Jr Js Jt O1 O2 low len=>by
   have kH : ∀ {id : Nat} {bb : Blk},blk? h id = some bb→blk? H id = some bb:=fun {id bb} hb=>by rw [low _ (blk?_lt hb)]; exact hb
   have hcH : Rk .i64 H cv cs:=hc.keep len fun id hid _=>low id hid
   have below_of : ∀ {v : Value} {N : Nat} {xs : List Value},Ga7 H 1 v N xs→below H.length v = true:=fun {v N xs} ho=>by
    rcases ho.2 with ⟨rfl,_⟩ | ⟨id,rfl,hb⟩
    ·simp
    ·have:=blk?_lt hb; simp; exact this
   have R1 : Rk .i64 H v1 (uv s vs ks):=Rk.own (by rw [ul1]; exact O1) (below_of O1) w1
   have R2 : Rk .i64 H v2 (uk s vs ks):=Rk.own (by rw [ul2]; exact O2) (below_of O2) w2
   have et:=fun R=>G9k (R:=R) hcH R1 R2 (a:=a) (b:=b) (w:=wt)
   have hR':=hR H low len
   rw [← hT]
   simp only [Gau,tlC,Gd5,B99]
   generalize Gms a b wt cs (uv s vs ks) (uk s vs ks) = z at *
   simp [kH b0,kH b6,kH b7,kH b8,et,Qcn]
   exact hR')
  vs.length 0 H1 K0 K1 K2 K3 K4 K5 Kb Kc Kd Kg Kh Ki Kj Kk Kl Km Kn Ko Kp Kq Kr Ks Kt Ku Kv Kw Kz J0 J1 J2 J3 J4 J5 J6 J7 J8 J9 Ja Jb Jc Jd Je Jf Jg Jh Ji Jj Jk Jl Jm Jn Jo Jp Jq Jr Js Jt (by omega) (by rw [List.take_zero,List.drop_zero]; exact o1) (by rw [List.take_zero,List.drop_zero]; exact o2) lo le
 obtain ⟨va,vc,hv1⟩:=o1.sl.shape
 simp only [Int.cast_ofNat_Int] at hL
 rw [hv1] at e1 hL
 simp [b1,b2,b3,b4,b5,e1]
 exact hL ..
end
structure CuI (hB H : Gag) (O : Nat) (rv ev : Value) (r d : List Int) : Prop where
 low : ∀ id,id < hB.length→id ≠ O→blk? H id = blk? hB id
 len : hB.length≤H.length
 out : blk? H O = some ⟨false,[rv,ev]⟩
 o1 : Ga7 H 1 rv r.length (Gcj r)
 o2 : Ga7 H 1 ev d.length (Gcj d)
 f1 : ∀ id,sid rv = some id→hB.length≤id
 f2 : ∀ id,sid ev = some id→hB.length≤id
 ne : ∀ id,sid rv = some id→sid ev ≠ some id
 ol : O < hB.length
theorem CuI.keep {hB H H' : Gag} {O : Nat} {rv ev : Value} {r d : List Int} (I : CuI hB H O rv ev r d) (hk : ∀ id,id < H.length→blk? H' id = blk? H id) (hl : H.length≤H'.length) : CuI hB H' O rv ev r d:=by
 have:=I.len
 exact ⟨fun id h1 h2=>by rw [hk id (by omega),I.low id h1 h2],by omega,by rw [hk _ (blk?_lt I.out)]; exact I.out,Gep I.o1 fun id hid=>hk id (I.o1.lt hid),Gep I.o2 fun id hid=>hk id (I.o2.lt hid),I.f1,I.f2,I.ne,I.ol⟩
theorem G7y {H : Gag} {v : Value} {xs : List Int} (o : Ga7 H 1 v xs.length (Gcj xs)) (hl : xs.length < 100000) (x : Int) :
  ∃ H',Gb0 (H++[some ⟨false,[.int .i64 x]⟩]) 1 8 v (.slice (some ⟨H.length,0,none⟩) 1 1) = some (.slice (some ⟨H.length + 1,0,none⟩) (xs.length + 1) 1,H') ∧
   Ga7 H' 1 (.slice (some ⟨H.length + 1,0,none⟩) (xs.length + 1) 1) (xs++[x]).length (Gcj (xs++[x]))∧H'.length = H.length + 2∧(∀ id,id < H.length→sid v ≠ some id→blk? H' id = blk? H id):=by
 have o' : Ga7 (H++[some ⟨false,[.int .i64 x]⟩]) 1 v xs.length (Gcj xs):=o.of_blk fun id hid hb=>by rw [blk?_push_lt (blk?_lt hb)]; exact hb
 have ht : Sl (H++[some ⟨false,[.int .i64 x]⟩]) 1 (.slice (some ⟨H.length,0,none⟩) 1 1) 1 [.int .i64 x]:=⟨rfl,.inr ⟨H.length,0,rfl,.inr ⟨_,blk?_push_eq,by simp,by simp⟩⟩⟩
 obtain ⟨H',a,b,l,k⟩:=Gbs (bytes:=8) o' ht (by unfold Gaq; omega) (by omega) (by omega)
 have hlen : (H++[some (⟨false,[.int .i64 x]⟩ : Blk)]).length = H.length + 1:=by simp
 rw [hlen] at a b l k
 refine ⟨H',a,⟨by simp [Gcj],.inr ⟨H.length + 1,by simp,by rw [b]; simp [Gcj]⟩⟩,l,fun id h1 h2=>by rw [k id (by omega) h2,blk?_push_lt h1]⟩
theorem CuI.step {hB H : Gag} {O : Nat} {rv ev : Value} {r d : List Int} (I : CuI hB H O rv ev r d) (hr : r.length < 100000) (hd : d.length < 100000) (x y : Int) :
  ∃ Ha Hb,Gb0 (H++[some ⟨false,[.int .i64 x]⟩]) 1 8 rv (.slice (some ⟨H.length,0,none⟩) 1 1) = some (.slice (some ⟨H.length + 1,0,none⟩) (r.length + 1) 1,Ha)∧blk? Ha O = some ⟨false,[rv,ev]⟩ ∧
   (Ha.set O (some ⟨false,[.slice (some ⟨H.length + 1,0,none⟩) (r.length + 1) 1,ev]⟩)).length = H.length + 2∧blk? (Ha.set O (some ⟨false,[.slice (some ⟨H.length + 1,0,none⟩) (r.length + 1) 1,ev]⟩)) O = some ⟨false,[.slice (some ⟨H.length + 1,0,none⟩) (r.length + 1) 1,ev]⟩ ∧
   Gb0 (Ha.set O (some ⟨false,[.slice (some ⟨H.length + 1,0,none⟩) (r.length + 1) 1,ev]⟩)++[some ⟨false,[.int .i64 y]⟩]) 1 8 ev (.slice (some ⟨H.length + 2,0,none⟩) 1 1) = some (.slice (some ⟨H.length + 3,0,none⟩) (d.length + 1) 1,Hb)∧blk? Hb O = some ⟨false,[.slice (some ⟨H.length + 1,0,none⟩) (r.length + 1) 1,ev]⟩ ∧
   CuI hB (Hb.set O (some ⟨false,[.slice (some ⟨H.length + 1,0,none⟩) (r.length + 1) 1,.slice (some ⟨H.length + 3,0,none⟩) (d.length + 1) 1]⟩)) O (.slice (some ⟨H.length + 1,0,none⟩) (r.length + 1) 1) (.slice (some ⟨H.length + 3,0,none⟩) (d.length + 1) 1) (r++[x]) (d++[y]):=by
 obtain ⟨Ha,a1,oa,la,ka⟩:=G7y I.o1 hr x
 have lO:=blk?_lt I.out
 have hol:=I.ol
 have hle:=I.len
 have nO1 : sid rv ≠ some O:=fun e=>by have:=I.f1 O e; omega
 have nO2 : sid ev ≠ some O:=fun e=>by have:=I.f2 O e; omega
 have outA : blk? Ha O = some ⟨false,[rv,ev]⟩:=by rw [ka O lO nO1]; exact I.out
 generalize hS : Ha.set O (some ⟨false,[.slice (some ⟨H.length + 1,0,none⟩) (r.length + 1) 1,ev]⟩) = Hs
 have ls : Hs.length = H.length + 2:=by rw [← hS]; simp [la]
 have outS : blk? Hs O = some ⟨false,[.slice (some ⟨H.length + 1,0,none⟩) (r.length + 1) 1,ev]⟩:=by rw [← hS]; exact blk?_set_eq (by omega)
 have o2s : Ga7 Hs 1 ev d.length (Gcj d):=Gep I.o2 fun id hid=>by
  have:=I.o2.lt hid
  rw [← hS,blk?_set_ne (fun e=>nO2 (by rw [e]; exact hid)),ka id this (fun e=>I.ne id e hid)]
 obtain ⟨Hb,a2,ob,lb,kb⟩:=G7y o2s hd y
 rw [ls] at a2 ob lb kb
 have outB : blk? Hb O = some ⟨false,[.slice (some ⟨H.length + 1,0,none⟩) (r.length + 1) 1,ev]⟩:=by rw [kb O (by omega) nO2]; exact outS
 refine ⟨Ha,Hb,a1,outA,by rw [hS]; exact ls,by rw [hS]; exact outS,by rw [hS]; exact a2,outB,⟨fun id h1 h2=>?_,by rw [List.length_set]; omega,blk?_set_eq (by omega),Gep oa fun id hid=>?_,Gep ob fun id hid=>?_,fun id hid=>?_,fun id hid=>?_,fun id hid=>?_,hol⟩⟩
 ·have e1 : sid rv ≠ some id:=fun e=>by have:=I.f1 id e; omega
  have e2 : sid ev ≠ some id:=fun e=>by have:=I.f2 id e; omega
  rw [blk?_set_ne (Ne.symm h2),kb id (by omega) e2,← hS,blk?_set_ne (Ne.symm h2),ka id (by omega) e1,I.low id h1 h2]
 ·simp [sid] at hid
  rw [blk?_set_ne (by omega),kb id (by omega) (fun e=>by have:=I.o2.lt e; omega),← hS,blk?_set_ne (by omega)]
 ·simp [sid] at hid
  rw [blk?_set_ne (by omega)]
 ·simp [sid] at hid; omega
 ·simp [sid] at hid; omega
 ·simp [sid] at hid ⊢; omega
section
variable {R : RP} {hB : Gag} {B O : Nat} {pv dv clo : Value} {pl : Int} {ps : List Int} {aft : Nat→Int × Int} {fin : Int × List Int × List Int} {K : List Ga1}
theorem G2y (hp : Rk .i64 hB pv ps) (hpO : sid pv ≠ some O) (b1 : blk? hB (B + 1) = some ⟨false,[.int .i64 pl,pv,dv]⟩) (n1 : B + 1 ≠ O) (b10 : blk? hB (B + 10) = some ⟨false,[.slice none 0 0,.slice none 0 0]⟩) (n10 : B + 10 ≠ O) (hl : ps.length < 90000)
  (hA : ∀ (n : Nat) (H : Gag),n≤ps.length→(∀ id,id < hB.length→id ≠ O→blk? H id = blk? hB id)→hB.length≤H.length→∃ H',(∀ R : RP,Gh8 clo [.int .i64 (n : Nat)] tab H R = R (.tuple #[.int .i64 (aft n).1,.int .i64 (aft n).2]) H')∧(∀ id,id < H.length→blk? H' id = blk? H id)∧H.length≤H'.length)
  (hK : ∀ (H : Gag) (rv ev : Value) (r d : List Int) (K0 K1 K2 K3 K4 K5 K6 K7 K8 K9 Ka Kb Kc Kd Ke Kf Kg Kh Ki Kj Kl Km Kn Ko Kp Kr Ks Kt Ku Kv Kw Kx Ky Kz J0 J1 J2 J3 J4 J5 J6 J7 J8 J9 Ja Jb Jc Jd Je Jf Jg Jh Ji Jj Jk Jl Jm Jn Jo Jp Jq Jr Js Jt Ju Jv Jw Jx Jy Jz Y0 Y1 Y2 Y3 Y4 Y5 Y6 Y7 Y8 Y9 Ya Yb Yc Yd Ye Yf Yg Yh Yi Yj Yk Yl Ym Yn Yo Yp Yq Yr Ys Yt Yu Yv Yw Yx Yy Yz Z0 Z1 Z2 Z3 Z4 : Value),CuI hB H O rv ev r d→fin = (0,r,d)→Ok tab R50 K #[K0,K1,K2,K3,K4,K5,K6,K7,K8,K9,Ka,Kb,Kc,Kd,Ke,Kf,Kg,Kh,Ki,Kj,ptr (B + 10),Kl,Km,Kn,Ko,Kp,ptr O,Kr,Ks,Kt,Ku,Kv,Kw,Kx,Ky,Kz,J0,J1,J2,J3,J4,J5,J6,J7,J8,J9,Ja,Jb,Jc,Jd,Je,Jf,Jg,Jh,Ji,Jj,Jk,Jl,Jm,Jn,Jo,Jp,Jq,Jr,Js,Jt,Ju,Jv,Jw,Jx,Jy,Jz,Y0,Y1,Y2,Y3,Y4,Y5,Y6,Y7,Y8,Y9,Ya,Yb,Yc,Yd,Ye,Yf,Yg,Yh,Yi,Yj,Yk,Yl,Ym,Yn,Yo,Yp,Yq,Yr,Ys,Yt,Yu,Yv,Yw,Yx,Yy,Yz,Z0,Z1,Z2,Z3,Z4] H R)
  (hE : ∀ (H : Gag) (e : Int),fin = (e,[],[])→(∀ id,id < hB.length→id ≠ O→blk? H id = blk? hB id)→hB.length≤H.length→R (.tuple #[.agg #[.slice none 0 0,.slice none 0 0],.int .i64 e]) H) :
  ∀ (k n : Nat) (H : Gag) (rv ev : Value) (r d : List Int) (K0 K1 K2 K3 K4 K5 K6 K7 K8 K9 Ka Kc Kd Ke Kf Kg Kh Ki Kj Kl Km Kn Ko Kr Ks Kt Ku Kv Kw Kx Ky Kz J0 J1 J2 J3 J4 J5 J6 J7 J8 J9 Ja Jb Jc Jd Je Jf Jg Jh Ji Jj Jk Jl Jm Jn Jo Jp Jq Jr Js Jt Ju Jv Jw Jx Jy Jz Y0 Y1 Y2 Y3 Y4 Y7 Y8 Y9 Ya Yb Yc Yd Ye Yf Yg Yh Yi Yj Yk Yl Ym Yn Yo Yp Yq Yr Ys Yt Yu Yv Yw Yx Yy Yz Z0 Z1 Z2 Z3 Z4 : Value),n + k = ps.length + 1→CuI hB H O rv ev r d→r.length = n→d.length = n→Gl0 aft ps k n r d = fin →
   Ok tab R50 (.inLoop G11 :: .inBlock 0 :: K) #[K0,K1,K2,K3,K4,K5,K6,K7,K8,K9,Ka,ptr (B + 1),Kc,Kd,Ke,Kf,Kg,Kh,Ki,Kj,ptr (B + 10),Kl,Km,Kn,Ko,clo,ptr O,Kr,Ks,Kt,Ku,Kv,Kw,Kx,Ky,Kz,J0,J1,J2,J3,J4,J5,J6,J7,J8,J9,Ja,Jb,Jc,Jd,Je,Jf,Jg,Jh,Ji,Jj,Jk,Jl,Jm,Jn,Jo,Jp,Jq,Jr,Js,Jt,Ju,Jv,Jw,Jx,Jy,Jz,Y0,Y1,Y2,Y3,Y4,.int .i64 ((ps.length + 1 : Nat) : Int),.int .i64 (n : Nat),Y7,Y8,Y9,Ya,Yb,Yc,Yd,Ye,Yf,Yg,Yh,Yi,Yj,Yk,Yl,Ym,Yn,Yo,Yp,Yq,Yr,Ys,Yt,Yu,Yv,Yw,Yx,Yy,Yz,Z0,Z1,Z2,Z3,Z4] H R:=by
 intro k
 induction k with
 | zero =>
  intro n H rv ev r d;intros;rename_i hn I hr hd hF
  obtain rfl : n = ps.length + 1:=by omega
  simp only [Gl0] at hF
  rw [Gad,Qcp,Gu6,Gdf]
  simp [-Int.natCast_add]
  exact hK H rv ev r d _ _ _ _ _ _ _ _ _ _ _ _ _ _ _ _ _ _ _ _ _ _ _ _ _ _ _ _ _ _ _ _ _ _ _ _ _ _ _ _ _ _ _ _ _ _ _ _ _ _ _ _ _ _ _ _ _ _ _ _ _ _ _ _ _ _ _ _ _ _ _ _ _ _ _ _ _ _ _ _ _ _ _ _ _ _ _ _ _ _ _ _ _ _ _ _ _ _ _ _ _ _ _ _ _ _ _ _ _ _ _ I hF.symm
 | succ k ih =>
  intro n H rv ev r d;intros;rename_i hn I hr hd hF
  have hlt : (n : Int) < ((ps.length + 1 : Nat) : Int):=by omega
  have hw : IntKind.i64.wrap ((n : Int) + 1) = ((n + 1 : Nat) : Int):=Gbc (n:=n + 1) (by omega)
  simp only [Gl0] at hF
  obtain ⟨H1,eA,k1,l1⟩:=hA n H (by omega) I.low I.len
  have I1:=I.keep k1 l1
  have hol:=I.ol
  have hle:=I1.len
  have lb1:=blk?_lt b1
  have lb10:=blk?_lt b10
  have d10 : blk? H1 (B + 10) = some ⟨false,[.slice none 0 0,.slice none 0 0]⟩:=by rw [I1.low _ lb10 n10]; exact b10
  have d1 : blk? H1 (B + 1) = some ⟨false,[.int .i64 pl,pv,dv]⟩:=by rw [I1.low _ lb1 n1]; exact b1
  obtain ⟨pa,pc,hpv⟩:=hp.sl.shape
  rw [Gad,Qcp,Gu6,show Gdf = .seq (.cond (.tmp 79) .skip (.exit 0)) (.seq (.block 1 (.seq (Gau 0 (inB (Gau 1 Gdf))) (.seq (Gau 1 (inB (Gau 1 Gdf))) (.seq (Gau 2 (inB (Gau 1 Gdf))) (.seq (Gau 3 (inB (Gau 1 Gdf))) (.seq (Gau 4 (inB (Gau 1 Gdf))) (tlC 5 (inB (Gau 1 Gdf))))))))) (tlC 2 Gdf)) from rfl]
  by_cases h0 : (aft n).2 = 0
  case neg =>
   have h0' : ((aft n).2 != 0) = true:=by simpa using h0
   rw [if_pos h0] at hF
   have hR:=hE H1 _ hF.symm I1.low I1.len
   have hset:=Gnt d10
   simp only [Gau,tlC,Gd5,inB,Gdf]
   simp [-Int.natCast_add,hlt,eA,h0',d10,hset,Gae,R50,Gbu,Gpk]
   exact hR
  rw [if_neg (by simp [h0])] at hF
  have h0' : ((aft n).2 != 0) = false:=by simpa using h0
  obtain ⟨Ha,Hb,a1,oa,ls,os,a2,ob,I2⟩:=I1.step (by omega) (by omega) (Gkt ps n) (aft n).1
  have o1:=I1.out
  have ih':=fun K0 K1 K2 K3 K4 K5 K6 K7 K8 K9 Ka Kc Kd Ke Kf Kg Kh Ki Kj Kl Km Kn Ko Kr Ks Kt Ku Kv Kw Kx Ky Kz J0 J1 J2 J3 J4 J5 J6 J7 J8 J9 Ja Jb Jc Jd Je Jf Jg Jh Ji Jj Jk Jl Jm Jn Jo Jp Jq Jr Js Jt Ju Jv Jw Jx Jy Jz Y0 Y1 Y2 Y3 Y4 Y7 Y8 Y9 Ya Yb Yc Yd Ye Yf Yg Yh Yi Yj Yk Yl Ym Yn Yo Yp Yq Yr Ys Yt Yu Yv Yw Yx Yy Yz Z0 Z1 Z2 Z3 Z4=>ih (n + 1) _ _ _ _ _ K0 K1 K2 K3 K4 K5 K6 K7 K8 K9 Ka Kc Kd Ke Kf Kg Kh Ki Kj Kl Km Kn Ko Kr Ks Kt Ku Kv Kw Kx Ky Kz J0 J1 J2 J3 J4 J5 J6 J7 J8 J9 Ja Jb Jc Jd Je Jf Jg Jh Ji Jj Jk Jl Jm Jn Jo Jp Jq Jr Js Jt Ju Jv Jw Jx Jy Jz Y0 Y1 Y2 Y3 Y4 Y7 Y8 Y9 Ya Yb Yc Yd Ye Yf Yg Yh Yi Yj Yk Yl Ym Yn Yo Yp Yq Yr Ys Yt Yu Yv Yw Yx Yy Yz Z0 Z1 Z2 Z3 Z4 (by omega) I2 (by simp; omega) (by simp; omega) hF
  obtain ⟨ra,rc,hrv⟩:=I.o1.sl.shape
  obtain ⟨ea,ec,hev⟩:=I.o2.sl.shape
  have done : ∀ K0 K1 K2 K3 K4 K5 K6 K7 K8 K9 Ka Kc Kd Ke Kf Kg Kh Ki Kj Kl Km Kn Ko Kr Kt Kv Kw Kx Ky Kz J0 J1 J2 J3 J4 J5 J6 J7 J8 J9 Ja Jb Jc Jd Je Jf Jg Jh Ji Jj Jk Jl Jm Jn Jo Jp Jq Jr Js Jt Ju Jv Jw Jx Jy Jz Y0 Y1 Y2 Y3 Y4 Y7 Y8 Y9 Ya Yb Yc Yd Ye Yf Yg Yh Yi Yj Yk Yl Ym Yn Yo Yp Yq Yr Ys Yt Yu Yv Yw Yx Yy Yz Z0 Z1 Z2 Z3 Z4 : Value,Ok tab R50 (.code (tlC 5 (inB (Gau 1 Gdf))) :: .inBlock 1 :: .code (tlC 2 Gdf) :: .inLoop G11 :: .inBlock 0 :: K) #[K0,K1,K2,K3,K4,K5,K6,K7,K8,K9,Ka,ptr (B + 1),Kc,Kd,Ke,Kf,Kg,Kh,Ki,Kj,ptr (B + 10),Kl,Km,Kn,Ko,clo,ptr O,Kr,.int .i64 (aft n).1,Kt,.int .i64 (Gkt ps n),Kv,Kw,Kx,Ky,Kz,J0,J1,J2,J3,J4,J5,J6,J7,J8,J9,Ja,Jb,Jc,Jd,Je,Jf,Jg,Jh,Ji,Jj,Jk,Jl,Jm,Jn,Jo,Jp,Jq,Jr,Js,Jt,Ju,Jv,Jw,Jx,Jy,Jz,Y0,Y1,Y2,Y3,Y4,.int .i64 ((ps.length + 1 : Nat) : Int),.int .i64 (n : Nat),Y7,Y8,Y9,Ya,Yb,Yc,Yd,Ye,Yf,Yg,Yh,Yi,Yj,Yk,Yl,Ym,Yn,Yo,Yp,Yq,Yr,Ys,Yt,Yu,Yv,Yw,Yx,Yy,Yz,Z0,Z1,Z2,Z3,Z4] H1 R:=by
   intros
   generalize ((n + 1 : Nat) : Int) = ni at *
   generalize ((ps.length + 1 : Nat) : Int) = pi at *
   rw [hrv,hev] at o1 oa
   rw [hrv] at a1
   rw [hev] at a2 os ob ls
   simp only [Gau,tlC,Gd5,inB,Gdf]
   simp [-Int.natCast_add,o1,Gd4,a1,oa,ls,os,a2,ob,hw]
   exact ih' ..
  clear ih' ih
  generalize hpi : ((ps.length + 1 : Nat) : Int) = pi at *
  generalize tlC 5 (inB (Gau 1 Gdf)) = tl5 at *
  generalize tlC 2 Gdf = tl2 at *
  simp only [Gau,tlC,Gd5,inB,Gdf]
  cases n with
  | zero =>
   have hz : Gkt ps 0 = 0:=rfl
   rw [hz] at done
   simp only [Int.cast_ofNat_Int] at eA hlt done
   simp [-Int.natCast_add,hlt,eA,h0']
   exact done ..
  | succ n =>
   have hz : Gkt ps (n + 1) = ps[n]'(by omega):=by
    unfold Gkt
    rw [if_neg (by omega),Nat.add_sub_cancel,List.getD_eq_getElem?_getD,List.getElem?_eq_getElem (by omega)]
    rfl
   have hp1 : Rk .i64 H1 pv ps:=hp.keep I1.len fun id hid hs=>I1.low id hid fun e=>hpO (by rw [← e]; exact hs)
   obtain ⟨id,off,bb,epv,hb,hc⟩:=hp1.get (i:=n) (by omega)
   have h1 : (0 : Int) < ((n + 1 : Nat) : Int):=by omega
   have w1 : IntKind.i64.wrap (((n + 1 : Nat) : Int) - 1) = (n : Int):=by rw [Gan (by omega) (by omega)]; omega
   have hnl : (n : Int) < (ps.length : Int):=by omega
   rw [hz] at done
   rw [epv] at d1
   generalize ((n + 1 : Nat) : Int) = nn at *
   simp [-Int.natCast_add,hlt,eA,h0',h1,d1,w1,hnl,hb,hc]
   exact done ..
end
section
variable {h : Gag} {cv pv dv : Value} {pl w hh o a b wt s : Int} {m : MD} {ps cs : List Int} {ds : List Nat}
theorem Qbo (hp : Rk .i64 h pv ps) (hd : Rk .u8 h dv (ds.map Int.ofNat)) (hc : Rk .i64 h cv cs) (hds : ∀ x ∈ ds,x < 256) (hl : ps.length < 90000) (hdl : ds.length < 1000000000) :
  ∃ v1 v2 h',(∀ R : RP,Ret tab 50 [cv,.agg #[.int .i64 pl,pv,dv],.int .i64 w,.int .i64 hh,.int .i64 o,m.val,.int .i64 a,.int .i64 b,.int .i64 wt,.int .i64 s] h R = R (.tuple #[.agg #[v1,v2],.int .i64 (Gpv m pl ps ds w hh o cs a b wt s).1]) h')∧Gjr h h' v1 v2 (Gpv m pl ps ds w hh o cs a b wt s):=by
 have key : ∀ R0 : RP,(∀ v1 v2 h',Gjr h h' v1 v2 (Gpv m pl ps ds w hh o cs a b wt s)→R0 (.tuple #[.agg #[v1,v2],.int .i64 (Gpv m pl ps ds w hh o cs a b wt s).1]) h')→Ret tab 50 [cv,.agg #[.int .i64 pl,pv,dv],.int .i64 w,.int .i64 hh,.int .i64 o,m.val,.int .i64 a,.int .i64 b,.int .i64 wt,.int .i64 s] h R0:=by
  intro R0 hR
  generalize hH : h++[some (⟨false,[cv]⟩ : Blk),some ⟨false,[.int .i64 pl,pv,dv]⟩,some ⟨false,[.int .i64 w]⟩,some ⟨false,[.int .i64 hh]⟩,some ⟨false,[.int .i64 o]⟩,some ⟨false,[.bool m.byp,.bool m.res,.bool m.rst,.bool m.cz,.bool m.sy]⟩,some ⟨false,[.int .i64 a]⟩,some ⟨false,[.int .i64 b]⟩,some ⟨false,[.int .i64 wt]⟩,some ⟨false,[.int .i64 s]⟩,some ⟨false,[.slice none 0 0,.slice none 0 0]⟩] = H
  have lH : H.length = h.length + 11:=by rw [← hH]; simp
  have kH : ∀ id,id < h.length→blk? H id = blk? h id:=fun id hid=>by rw [← hH]; exact Gbf hid
  have C0 : CuB H h.length cv pv dv pl w hh o a b wt s m:=⟨by rw [← hH,Gbe]; rfl,by rw [← hH,Ga0]; rfl,by rw [← hH,Ga0]; rfl,by rw [← hH,Ga0]; rfl,by rw [← hH,Ga0]; rfl,by rw [← hH,Ga0]; rfl,by rw [← hH,Ga0]; rfl,by rw [← hH,Ga0]; rfl,by rw [← hH,Ga0]; rfl,by rw [← hH,Ga0]; rfl⟩
  have b10 : blk? H (h.length + 10) = some ⟨false,[.slice none 0 0,.slice none 0 0]⟩:=by rw [← hH,Ga0]; rfl
  have hpH : Rk .i64 H pv ps:=by rw [← hH]; exact hp.push _
  have hdH : Rk .u8 H dv (ds.map Int.ofNat):=by rw [← hH]; exact hd.push _
  have hcH : Rk .i64 H cv cs:=by rw [← hH]; exact hc.push _
  obtain ⟨v1,v2,H1,e1,V⟩:=Gv5 (m:=m) (pl:=pl) (n:=0) (w:=w) (hh:=hh) (o:=o) hpH hdH hds (by omega) hdl
  have lo:=V.low
  have le:=V.len
  clear V
  have C1:=C0.keep lo
  have d10 : blk? H1 (h.length + 10) = some ⟨false,[.slice none 0 0,.slice none 0 0]⟩:=by rw [lo _ (by omega)]; exact b10
  have hset:=Gnt d10
  have hp1 : Rk .i64 H1 pv ps:=hpH.keep le fun id hid _=>lo id hid
  have hd1 : Rk .u8 H1 dv (ds.map Int.ofNat):=hdH.keep le fun id hid _=>lo id hid
  have hc1 : Rk .i64 H1 cv cs:=hcH.keep le fun id hid _=>lo id hid
  have bad : ∀ e,Gpv m pl ps ds w hh o cs a b wt s = (e,[],[])→R0 (.tuple #[.agg #[.slice none 0 0,.slice none 0 0],.int .i64 e]) H1:=fun e he=>by
   rw [he] at hR
   exact hR _ _ _ (Gjr.bad (fun id hid=>by rw [lo id (by omega),kH id hid]) (by omega) e)
  obtain ⟨ca,cc,hcv⟩:=hc.sl.shape
  obtain ⟨pa,pc,hpv⟩:=hp.sl.shape
  have hvc : Sim.isVar cv = true:=by rw [hcv]; rfl
  have hcc : cv.cells = #[cv]:=by rw [hcv]; rfl
  have hchk : (Gfr m pl ps ds 0 w hh o).1 = 0→1≤w∧w≤64∧1≤hh∧hh≤64:=by
   intro h0
   unfold Gfr at h0
   split at h0
   ·rename_i hx; exact absurd h0 hx
   ·rename_i hx
    have hx : Gcx pl ps (ds.map Int.ofNat) 0 w hh o = 0:=by simpa using hx
    obtain ⟨_,_,_,w1,w2,h1,h2,_⟩:=Ggl hx
    exact ⟨w1,w2,h1,h2⟩
  unfold Gpv at hR bad
  generalize hX : (Gfr m pl ps ds 0 w hh o).1 = X at *
  simp only [MD.val] at e1
  rw [G8m,show B50 = .seq (Gau 0 B50) (.seq (Gau 1 B50) (.seq (Gau 2 B50) (.seq (Gau 3 B50) (.seq (Gau 4 B50) (.seq (Gau 5 B50) (.seq (Gau 6 B50) (tlC 7 B50))))))) from rfl]
  generalize hT : tlC 7 B50 = tl7
  simp only [Gau,tlC,Gd5,B50]
  obtain ⟨b0,b1,b2,b3,b4,b5,b6,b7,b8,b9⟩:=C0
  have C1':=C1
  obtain ⟨c0,c1,c2,c3,c4,c5,c6,c7,c8,c9⟩:=C1'
  by_cases hx0 : X = 0
  case neg =>
   have hx0' : (X != 0) = true:=by simpa using hx0
   have hR':=bad X (by rw [if_pos hx0])
   simp [MD.val,hvc,hcc,hH,b1,b2,b3,b4,b5,e1,hx0',d10,hset,Gae,R50,Gbu,Gpk]
   exact hR'
  have hx0' : (X != 0) = false:=by simpa using hx0
  obtain ⟨w1,w2,h1,h2⟩:=hchk hx0
  rw [if_neg (by simp [hx0])] at hR bad
  obtain ⟨m1,m2⟩:=Gbx (a:=w) (b:=hh) (c:=64) (d:=64) (by omega) (by omega) (by omega) (by omega)
  have hwr : IntKind.i64.wrap (w * hh) = w * hh:=Gan (by omega) (by omega)
  rw [hcv] at c0
  by_cases hlen : (cs.length : Int) = w * hh
  case neg =>
   have hlen' : ((cs.length : Int) != w * hh) = true:=by simpa using hlen
   have hR':=bad 4 (by rw [if_pos hlen])
   simp [MD.val,hvc,hcc,hH,b1,b2,b3,b4,b5,e1,hx0',c0,c2,c3,hwr,hlen',d10,hset,Gae,R50,Gbu,Gpk]
   exact hR'
  have hlen' : ((cs.length : Int) != w * hh) = false:=by simpa using hlen
  rw [if_neg (by simp [hlen])] at hR bad
  have hq:=fun H R=>Ggm (h:=H) (R:=R) (a:=a) (b:=b)
  by_cases hqo : QOk a b
  rotate_left
  ·have hR':=bad 2 (by rw [if_pos (.inl hqo)])
   simp [MD.val,hvc,hcc,Gaa,Gah,hH,b1,b2,b3,b4,b5,e1,hx0',c0,c2,c3,hwr,hlen',c6,c7,hq,hqo,d10,hset,Gae,R50,Gbu,Gpk]
   exact hR'
  by_cases q1 : wt < 0
  ·have hR':=bad 2 (by rw [if_pos (.inr (.inl q1))])
   simp [MD.val,hvc,hcc,Gaa,Gah,hH,b1,b2,b3,b4,b5,e1,hx0',c0,c2,c3,hwr,hlen',c6,c7,c8,hq,hqo,q1,d10,hset,Gae,R50,Gbu,Gpk]
   exact hR'
  by_cases q2 : 16 < wt
  ·have hR':=bad 2 (by rw [if_pos (.inr (.inr (.inl q2)))])
   simp [MD.val,hvc,hcc,Gaa,Gah,hH,b1,b2,b3,b4,b5,e1,hx0',c0,c2,c3,hwr,hlen',c6,c7,c8,hq,hqo,q1,q2,d10,hset,Gae,R50,Gbu,Gpk]
   exact hR'
  by_cases q3 : s < 0
  ·have hR':=bad 2 (by rw [if_pos (.inr (.inr (.inr (.inl q3))))])
   simp [MD.val,hvc,hcc,Gaa,Gah,hH,b1,b2,b3,b4,b5,e1,hx0',c0,c2,c3,hwr,hlen',c6,c7,c8,c9,hq,hqo,q1,q2,q3,d10,hset,Gae,R50,Gbu,Gpk]
   exact hR'
  by_cases q4 : 30 < s
  ·have hR':=bad 2 (by rw [if_pos (.inr (.inr (.inr (.inr q4))))])
   simp [MD.val,hvc,hcc,Gaa,Gah,hH,b1,b2,b3,b4,b5,e1,hx0',c0,c2,c3,hwr,hlen',c6,c7,c8,c9,hq,hqo,q1,q2,q3,q4,d10,hset,Gae,R50,Gbu,Gpk]
   exact hR'
  rw [if_neg (by intro hz; rcases hz with hz | hz | hz | hz | hz; exact hz hqo; exact q1 hz; exact q2 hz; exact q3 hz; exact q4 hz)] at hR bad
  generalize hF : Gl0 (Gy7 m pl ps ds w hh o cs a b wt s) ps (ps.length + 1) 0 [] [] = F at *
  generalize hB : H1++[some (⟨false,[.slice none 0 0,.slice none 0 0]⟩ : Blk)] = HB
  have lB : HB.length = H1.length + 1:=by rw [← hB]; simp
  have kB : ∀ id,id < H1.length→blk? HB id = blk? H1 id:=fun id hid=>by rw [← hB]; exact blk?_push_lt hid
  have CB:=C1.keep (h':=HB) kB
  have hpB : Rk .i64 HB pv ps:=hp1.keep (by omega) fun id hid _=>kB id hid
  have hdB : Rk .u8 HB dv (ds.map Int.ofNat):=hd1.keep (by omega) fun id hid _=>kB id hid
  have hcB : Rk .i64 HB cv cs:=hc1.keep (by omega) fun id hid _=>kB id hid
  have bO : blk? HB H1.length = some ⟨false,[.slice none 0 0,.slice none 0 0]⟩:=by rw [← hB]; exact blk?_push_eq
  have hL:=fun K0 K1 K2 K3 K4 K5 K6 K7 K8 K9 Ka Kc Kd Ke Kf Kg Kh Ki Kj Kl Km Kn Ko Kr Ks Kt Ku Kv Kw Kx Ky Kz J0 J1 J2 J3 J4 J5 J6 J7 J8 J9 Ja Jb Jc Jd Je Jf Jg Jh Ji Jj Jk Jl Jm Jn Jo Jp Jq Jr Js Jt Ju Jv Jw Jx Jy Jz Y0 Y1 Y2 Y3 Y4 Y7 Y8 Y9 Ya Yb Yc Yd Ye Yf Yg Yh Yi Yj Yk Yl Ym Yn Yo Yp Yq Yr Ys Yt Yu Yv Yw Yx Yy Yz Z0 Z1 Z2 Z3 Z4=>G2y (R:=R0) (hB:=HB) (B:=h.length) (O:=H1.length) (pv:=pv) (dv:=dv) (pl:=pl) (ps:=ps) (aft:=Gy7 m pl ps ds w hh o cs a b wt s) (fin:=F) (K:=[.code tl7])
   (clo:=.func (.func 99) #[] #[ptr (h.length + 1),ptr (h.length + 2),ptr (h.length + 3),ptr (h.length + 4),ptr (h.length + 5),ptr (h.length + 9),ptr h.length,ptr (h.length + 6),ptr (h.length + 7),ptr (h.length + 8)])
   hpB (fun e=>by have:=hp1.lt e; omega) CB.b1 (by omega) (by rw [kB _ (by omega)]; exact d10) (by omega) (by omega)
   (fun n G hn low len=>by
    have CG : CuB G h.length cv pv dv pl w hh o a b wt s m:=⟨by rw [low _ (by omega) (by omega)]; exact CB.b0,by rw [low _ (by omega) (by omega)]; exact CB.b1,by rw [low _ (by omega) (by omega)]; exact CB.b2,by rw [low _ (by omega) (by omega)]; exact CB.b3,by rw [low _ (by omega) (by omega)]; exact CB.b4,by rw [low _ (by omega) (by omega)]; exact CB.b5,by rw [low _ (by omega) (by omega)]; exact CB.b6,by rw [low _ (by omega) (by omega)]; exact CB.b7,by rw [low _ (by omega) (by omega)]; exact CB.b8,by rw [low _ (by omega) (by omega)]; exact CB.b9⟩
    have keepR : ∀ {k : IntKind} {v : Value} {xs : List Int},Rk k H1 v xs→Rk k HB v xs→Rk k G v xs:=fun {k v xs} r1 rB=>rB.keep len fun id hid hs=>low id hid (by have:=r1.lt hs; omega)
    obtain ⟨G',eG,kG,lG⟩:=Qbn n CG (keepR hp1 hpB) (keepR hd1 hdB) (keepR hc1 hcB) hds (by omega) hdl
    exact ⟨G',fun R=>by simpa using eG R,kG,lG⟩)
   (fun G rv ev r d K0 K1 K2 K3 K4 K5 K6 K7 K8 K9 Ka Kb Kc Kd Ke Kf Kg Kh Ki Kj Kl Km Kn Ko Kp Kr Ks Kt Ku Kv Kw Kx Ky Kz J0 J1 J2 J3 J4 J5 J6 J7 J8 J9 Ja Jb Jc Jd Je Jf Jg Jh Ji Jj Jk Jl Jm Jn Jo Jp Jq Jr Js Jt Ju Jv Jw Jx Jy Jz Y0 Y1 Y2 Y3 Y4 Y5 Y6 Y7 Y8 Y9 Ya Yb Yc Yd Ye Yf Yg Yh Yi Yj Yk Yl Ym Yn Yo Yp Yq Yr Ys Yt Yu Yv Yw Yx Yy Yz Z0 Z1 Z2 Z3 Z4 I hFe=>by
    have g10 : blk? G (h.length + 10) = some ⟨false,[.slice none 0 0,.slice none 0 0]⟩:=by rw [I.low _ (by omega) (by omega),kB _ (by omega)]; exact d10
    have gO:=I.out
    have lG:=I.len
    generalize hS : G.set (h.length + 10) (some ⟨false,[rv,ev]⟩) = G'
    have g10' : blk? G' (h.length + 10) = some ⟨false,[rv,ev]⟩:=by rw [← hS]; exact blk?_set_eq (by omega)
    have lG' : G'.length = G.length:=by rw [← hS]; simp
    have nS : ∀ id,id ≠ h.length + 10→blk? G' id = blk? G id:=fun id hid=>by rw [← hS]; exact blk?_set_ne (by omega)
    rw [hFe] at hR
    have hR':=hR rv ev G' ⟨Gep I.o1 fun id hid=>nS id (by have:=I.f1 id hid; omega),Gep I.o2 fun id hid=>nS id (by have:=I.f2 id hid; omega),fun id hid=>by rw [nS id (by omega),I.low id (by omega) (by omega),kB id (by omega),lo id (by omega),kH id hid],by omega,fun id hid=>by rcases hid with hid | hid; (have:=I.f1 id hid; omega); (have:=I.f2 id hid; omega),I.ne⟩
    rw [← hT]
    simp only [Gau,tlC,Gd5,B50]
    simp [g10,gO,hS,g10',Gae,R50,Gbu,Gpk]
    exact hR')
   (fun G e hFe low len=>by
    rw [hFe] at hR
    exact hR _ _ _ (Gjr.bad (fun id hid=>by rw [low id (by omega) (by omega),kB id (by omega),lo id (by omega),kH id hid]) (by omega) e))
   (ps.length + 1) 0 HB (.slice none 0 0) (.slice none 0 0) [] [] K0 K1 K2 K3 K4 K5 K6 K7 K8 K9 Ka Kc Kd Ke Kf Kg Kh Ki Kj Kl Km Kn Ko Kr Ks Kt Ku Kv Kw Kx Ky Kz J0 J1 J2 J3 J4 J5 J6 J7 J8 J9 Ja Jb Jc Jd Je Jf Jg Jh Ji Jj Jk Jl Jm Jn Jo Jp Jq Jr Js Jt Ju Jv Jw Jx Jy Jz Y0 Y1 Y2 Y3 Y4 Y7 Y8 Y9 Ya Yb Yc Yd Ye Yf Yg Yh Yi Yj Yk Yl Ym Yn Yo Yp Yq Yr Ys Yt Yu Yv Yw Yx Yy Yz Z0 Z1 Z2 Z3 Z4 (by omega)
   ⟨fun id _ _=>rfl,Nat.le_refl _,bO,Ga7.nil _ _,Ga7.nil _ _,fun id hid=>by simp [sid] at hid,fun id hid=>by simp [sid] at hid,fun id hid=>by simp [sid] at hid,by omega⟩ rfl rfl hF
  have hwl : IntKind.i64.wrap ((ps.length : Int) + 1) = ((ps.length + 1 : Nat) : Int):=Gbc (n:=ps.length + 1) (by omega)
  generalize ((ps.length + 1 : Nat) : Int) = pi at *
  simp only [Int.cast_ofNat_Int] at hL
  have f1:=CB.b1
  rw [hpv] at f1
  simp [MD.val,hvc,hcc,Gaa,Gah,hH,b1,b2,b3,b4,b5,e1,hx0',c0,c2,c3,hwr,hlen',c6,c7,c8,c9,hq,hqo,q1,q2,q3,q4,hB,f1,hwl]
  exact hL ..
 obtain ⟨v,h',e,v1,v2,rfl,V⟩:=Gck (key (fun v h'=>∃ v1 v2,v = .tuple #[.agg #[v1,v2],.int .i64 (Gpv m pl ps ds w hh o cs a b wt s).1]∧Gjr h h' v1 v2 (Gpv m pl ps ds w hh o cs a b wt s)) fun v1 v2 h' V=>⟨v1,v2,rfl,V⟩)
 exact ⟨v1,v2,h',e,V⟩
end
section
variable {h : Gag} {R : RP} {e pb lb : Nat} {a : AE}
end
structure Gjb (st : S2) : Prop where
 ok : st.a.Ok
 p : st.a.p.length = 19
 bits : ∀ bs,st.raw = some bs→Gc5 bs
theorem AE.put_len (a : AE) (c bit : Nat) : a.ds.length≤(a.put c bit).ds.length∧(a.put c bit).p.length = a.p.length∧(a.put c bit).begun = true:=by
 have key : ∀ b : AE,b.ds.length = a.ds.length→a.ds.length≤b.norm.ds.length:=by
  intro b hb
  unfold AE.norm
  split
  ·simp only [List.length_append,List.length_singleton]; omega
  ·omega
 refine ⟨?_,by simp [AE.put],rfl⟩
 unfold AE.put
 by_cases hb : bit = 0
 ·simp only [hb,if_true]; exact key _ rfl
 ·simp only [hb,if_false]; exact key _ (Gb7 _ _)
theorem G0k {st : S2} (h : Gjb st) {s : Int × Nat} (hs : Gem st.raw s) : Gjb (st.put s)∧st.size≤(st.put s).size:=by
 obtain ⟨a,raw⟩:=st
 obtain ⟨h1,h2,h3⟩:=h
 obtain ⟨hb,hc⟩:=hs
 cases raw with
 | none =>
  have hc:=hc rfl
  simp only at h1 h2
  obtain ⟨q1,q2,q3⟩:=a.put_len s.1.toNat s.2
  refine ⟨⟨AE.put_ok h1 (by omega),by show (a.put _ _).p.length = 19; rw [q2]; exact h2,fun bs hbs=>by simp [S2.put] at hbs⟩,?_⟩
  simp only [S2.put,S2.size,q3,if_true]
  split <;> omega
 | some bs =>
  refine ⟨⟨h1,h2,fun bs' hbs=>?_⟩,by simp only [S2.put,S2.size,List.length_append,List.length_singleton]; omega⟩
  simp only [S2.put,Option.some.injEq] at hbs
  subst hbs
  exact (h3 bs rfl).push (by omega)
theorem Gnw (st : S2) (s : Int × Nat) : ((st.put s).raw = none ↔ st.raw = none):=by unfold S2.put; cases st.raw <;> simp
theorem Gd8 {r r' : Option (List Nat)} {s : Int × Nat} (h : Gem r s) (e : r' = none→r = none) : Gem r' s:=⟨h.1,fun x=>h.2 (e x)⟩
theorem Gox : ∀ (l : List (Int × Nat)) {st : S2},Gjb st→(∀ s ∈ l,Gem st.raw s)→Gjb (st.puts l)∧st.size≤(st.puts l).size
 | [],st,h,_=>⟨h,Nat.le_refl _⟩
 | s :: l,st,h,hs=>by
  obtain ⟨a,b⟩:=G0k h (hs s (List.mem_cons_self ..))
  obtain ⟨c,d⟩:=Gox l a fun t ht=>Gd8 (hs t (List.mem_cons_of_mem _ ht)) (Gnw st s).1
  exact ⟨c,Nat.le_trans b d⟩
theorem Gj0 {st : S2} (h : Gjb st) : Gjb st.back∧st.back.size = st.size:=by
 refine ⟨⟨⟨Gfw _,h.ok.dig,h.ok.len,h.ok.s1,h.ok.s2,h.ok.top⟩,by simpa [S2.back,AE.setBack,AE.base] using h.p,h.bits⟩,?_⟩
 obtain ⟨a,raw⟩:=st
 cases raw <;> rfl
def asc : Nat→List Nat→Prop
 | _,[]=>True
 | z,x :: xs=>z≤x∧asc x xs
theorem Ghm (m : MD) : ∀ (ls : List (List (Int × Nat))) (n : Nat) (st : S2),Gjb st→(∀ l ∈ ls,∀ s ∈ l,Gem st.raw s)→Gjb (Gap m n ls st).1∧asc st.size (Gap m n ls st).2
 | [],_,st,h,_=>⟨h,trivial⟩
 | l :: r,n,st,h,hs=>by
  have h0 : Gjb (if m.rst = true∧Gaw m n = false then st.back else st)∧(if m.rst = true∧Gaw m n = false then st.back else st).size = st.size∧(if m.rst = true∧Gaw m n = false then st.back else st).raw = st.raw:=by
   split
   ·exact ⟨(Gj0 h).1,(Gj0 h).2,rfl⟩
   ·exact ⟨h,rfl,rfl⟩
  obtain ⟨a0,b0,c0⟩:=h0
  obtain ⟨a1,b1⟩:=Gox l a0 fun s hx=>by rw [c0]; exact hs l (List.mem_cons_self ..) s hx
  obtain ⟨a2,b2⟩:=Ghm m r (n + 1) _ a1 fun l' hl' s hx=>Gd8 (hs l' (List.mem_cons_of_mem _ hl') s hx) fun x=>by rw [← c0]; exact (Geq l _).2 x
  exact ⟨a2,by rw [← b0]; exact b1,b2⟩
theorem G0i {low size : Nat} (h : low < 4294967296) : (Gch low size).1 < 4294967296:=by
 unfold Gch
 repeat' split
 all_goals simp only
 all_goals omega
theorem Gwu {st : S2} (h : Gjb st) : ∀ x ∈ st.bytes,x < 256:=by
 obtain ⟨a,raw⟩:=st
 cases raw with
 | none =>
  have hd:=h.ok.dig
  have hl:=h.ok.len
  have hlt:=Gle (hd.drop (a.ds.length - 4))
  have e : (a.ds.drop (a.ds.length - 4)).length = 4:=by rw [List.length_drop]; simp only at hl; omega
  rw [e] at hlt
  refine Gt5 ?_
  unfold Gf7
  refine Dig.app ?_ (Gjt (G0i (by simpa using hlt)))
  split
  ·exact Gjn _ _
  ·exact hd.take _
 | some bs=>exact fun x hx=>Qbh (h.bits bs rfl) x (List.mem_of_mem_take hx)
theorem Gv0 {st : S2} (h : Gjb st) : st.after.Ok∧st.after.p.length = 19:=by
 obtain ⟨a,raw⟩:=st
 cases raw with
 | none=>exact ⟨Ghf h.ok.ps,h.p⟩
 | some bs=>exact ⟨h.ok,h.p⟩
def Gls : List Nat→Nat→Option Nat
 | [],l=>some l
 | x :: xs,l=>if x < l then none else Gls xs x
theorem Gnm : ∀ (a b : List Nat) (l : Nat),Gls (a++b) l = (Gls a l).bind fun r=>Gls b r
 | [],b,l=>rfl
 | x :: a,b,l=>by
  simp only [List.cons_append,Gls]
  split
  ·rfl
  ·exact Gnm a b x
theorem Gu9 {f : Nat→Nat} (hf : ∀ x y,x≤y→f x≤f y) : ∀ (zs : List Nat) (z : Nat),asc z zs→∃ r,Gls (zs.map f) (f z) = some (f r)
 | [],z,_=>⟨z,rfl⟩
 | x :: xs,z,h=>by
  obtain ⟨r,hr⟩:=Gu9 hf xs x h.2
  refine ⟨r,?_⟩
  rw [List.map_cons,Gls,if_neg (by have:=hf z x h.1; omega),hr]
theorem Gwg : ∀ (zs : List Nat) (z n : Nat),asc z zs→asc z (zs.take n)
 | [],_,n,h=>by simpa using h
 | x :: xs,z,0,h=>trivial
 | x :: xs,z,n + 1,h=>⟨h.1,Gwg xs x n h.2⟩
theorem G9q : ∀ (zs : List Nat) {z z' : Nat},z'≤z→asc z zs→asc z' zs
 | [],_,_,_,_=>trivial
 | x :: xs,z,z',h,k=>⟨Nat.le_trans h k.1,k.2⟩
theorem Gl8 (m : MD) (ls : List (List (Int × Nat))) (hsym : ∀ i (h1 : i < ls.length),∀ s ∈ ls[i],s.2 < 2∧(Gaw m i = false→0≤s.1∧s.1 < 19)) :
  ∀ (gs : List Nat) (n : Nat) (a : AE) (P D : List Nat),a.Ok→a.p.length = 19→Gq1 m n gs→(∀ c ∈ gs,1≤c)→n + Gi4 gs≤ls.length→Gls P 0 = some D.length→(∀ x ∈ D,x < 256) →
   Gls (Gb2 m ls gs n a P D).1 0 = some (Gb2 m ls gs n a P D).2.length∧(∀ x ∈ (Gb2 m ls gs n a P D).2,x < 256)∧(Gb2 m ls gs n a P D).1.length = P.length + Gi4 gs
 | [],n,a,P,D,_,_,_,_,_,hP,hD=>⟨hP,hD,by simp [Gb2,Gi4]⟩
 | c :: cs,n,a,P,D,ha,hp,hso,hc,hn,hP,hD=>by
  obtain ⟨hso1,hso2⟩:=hso
  have hc1:=hc c (List.mem_cons_self ..)
  simp only [Gi4] at hn
  have hS : Gjb ⟨a,if Gaw m n = true then some [] else none⟩:=by
   refine ⟨ha,hp,fun bs hbs=>?_⟩
   simp only at hbs
   split at hbs
   ·injection hbs with hbs; subst hbs; intro b hb; cases hb
   ·cases hbs
  have hsy : ∀ l ∈ (ls.drop n).take c,∀ s ∈ l,Gem (if Gaw m n = true then some [] else none : Option (List Nat)) s:=by
   intro l hl s hs
   obtain ⟨j,hj,rfl⟩:=List.getElem_of_mem hl
   have hjc : j < c:=by simp at hj; omega
   have hnj : n + j < ls.length:=by omega
   have e1 : ((ls.drop n).take c)[j] = ls[n + j]:=by simp
   rw [e1] at hs
   obtain ⟨q1,q2⟩:=hsym (n + j) hnj s hs
   refine ⟨q1,fun hx=>q2 ?_⟩
   cases hrw : Gaw m n with
   | true=>rw [hrw] at hx; simp at hx
   | false=>exact hso1 hrw j hjc
  obtain ⟨s1,s2⟩:=Ghm m _ n _ hS hsy
  have hrl:=Ge8 m ((ls.drop n).take c) n ⟨a,if Gaw m n = true then some [] else none⟩
  have hcl : ((ls.drop n).take c).length = c:=by rw [List.length_take,List.length_drop]; omega
  rw [hcl] at hrl
  simp only [Gb2]
  generalize Gap m n ((ls.drop n).take c) ⟨a,if Gaw m n = true then some [] else none⟩ = r at *
  obtain ⟨st,zs⟩:=r
  simp only at s1 s2 hrl ⊢
  obtain ⟨t1,t2⟩:=Gv0 s1
  obtain ⟨q,hq⟩:=Gu9 (f:=fun z=>min (D.length + z) (D++st.bytes).length) (fun x y h=>by omega) (zs.take (c - 1)) 0 (Gwg _ _ _ (G9q _ (Nat.zero_le _) s2))
  have e0 : min (D.length + 0) (D++st.bytes).length = D.length:=by rw [List.length_append]; omega
  simp only [e0] at hq
  have hP' : Gls (P++(zs.take (c - 1)).map (fun z=>min (D.length + z) (D++st.bytes).length)++[(D++st.bytes).length]) 0 = some (D++st.bytes).length:=by
   rw [Gnm,Gnm,hP]
   simp only [Option.bind_some,hq,Gls]
   rw [if_neg (by omega)]
  obtain ⟨r1,r2,r3⟩:=Gl8 m ls hsym cs (n + c) st.after _ (D++st.bytes) t1 t2 hso2 (fun x hx=>hc x (List.mem_cons_of_mem _ hx)) (by omega) hP' (fun x hx=>by
   rcases List.mem_append.1 hx with hx | hx
   ·exact hD x hx
   ·exact Gwu s1 x hx)
  refine ⟨r1,r2,?_⟩
  rw [r3]
  simp only [List.length_append,List.length_map,List.length_take,List.length_singleton,Gi4]
  omega
theorem Gon : ∀ (ps : List Nat) (l r : Nat),Gls ps l = some r→∀ x ∈ ps,x≤r
 | [],_,_,_,x,hx=>by cases hx
 | y :: ps,l,r,h,x,hx=>by
  unfold Gls at h
  split at h
  ·cases h
  ·have key : ∀ (ps : List Nat) (l r : Nat),Gls ps l = some r→l≤r:=by
    intro ps
    induction ps with
    | nil=>intro l r h; simp [Gls] at h; omega
    | cons z zs ih=>intro l r h; unfold Gls at h; split at h; cases h; have:=ih _ _ h; omega
   rcases List.mem_cons.1 hx with rfl | hx
   ·exact key _ _ _ h
   ·exact Gon ps y r h x hx
theorem Gcl {xs : List Int} {w hh o : Int} {m : MD} : ((Gal xs w hh o m).1 ≠ 0→(Gal xs w hh o m).2 = ⟨0,[],[]⟩) ∧
  ((Gal xs w hh o m).1 = 0→(Gaz xs w hh o m).1 = 0∧Gab xs≤60∧(Gal xs w hh o m).2.pl = Gab xs∧(Gal xs w hh o m).2.ps.length = 3 * Gab xs - 2 ∧
   Gls (Gal xs w hh o m).2.ps 0 = some (Gal xs w hh o m).2.ds.length∧(∀ x ∈ (Gal xs w hh o m).2.ds,x < 256)∧(Gal xs w hh o m).2.ds.length≤65535):=by
 by_cases h0 : (Gaz xs w hh o m).1 = 0
 ·obtain ⟨hp,hl⟩:=Gmc h0
  obtain ⟨g1,g2,g3⟩:=Ggh (m:=m) (n:=(Gaz xs w hh o m).2.length) (by omega)
  obtain ⟨r1,r2,r3⟩:=Gl8 m (Gaz xs w hh o m).2 (Gmy h0) (Gba m (Gaz xs w hh o m).2.length) 0 (AE.begin (AE.base 19)) [] [] (Ghf (Gfw 19)) (by simp [AE.begin,AE.base]) (Gkx m _) (fun c hc=>(g3 c hc).1) (by omega) rfl (fun x hx=>by cases hx)
  unfold Gal
  simp only [ne_eq,h0,not_true_eq_false,if_false]
  split
  ·exact ⟨fun _=>rfl,fun h=>by simp at h⟩
  ·rename_i hb
   refine ⟨fun h=>by simp at h,fun _=>⟨trivial,hp,rfl,?_,r1,r2,by simp only; omega⟩⟩
   simp only
   rw [r3,g1,hl]; simp
 ·have e : Gal xs w hh o m = ((Gaz xs w hh o m).1,⟨0,[],[]⟩):=by unfold Gal; simp only [ne_eq,h0,not_false_eq_true,if_true]
  rw [e]
  exact ⟨fun _=>rfl,fun h=>absurd h h0⟩
section
variable {h : Gag} {R : RP} {e pb lb : Nat} {a : AE}
end
section
variable {h : Gag} {R : RP} {e pb lb : Nat} {a : AE}
end
section
variable {h : Gag} {R : RP} {e pb lb : Nat} {a : AE}
end
section
variable {h : Gag} {R : RP} {e pb lb : Nat} {a : AE}
end
section
variable {h : Gag} {R : RP} {d pb n value size : Nat} {dv : Value} {D p : List Nat} {st : Bool} {a : AD}
end
section
variable {h : Gag} {R : RP} {q n : Nat} {s : Value} {xs : List Nat}
end
section
variable {P : PP}
end
structure QR where
 on : Bool
 a : AD
 rd : List Nat × Nat
 l : List (Int × Nat)
def G3x (sb : Nat) : Gag→Int→(RP)→Prop:=fun h x R=>Ret tab 185 [ptr sb,.int .i64 x] h R
section
variable {h : Gag} {f : Bool} {q p c : Nat} {P : PP} {m : MD} {sb : Nat} {b : BS} {x y : Int} {R : RP}
end
section
variable {c sb : Nat} {A : Src c (G3x sb)} {h : Gag} {q p : Nat} {P : PP} {m : MD} {t : A.T} {b : BS} {s : A.S}
end
section
variable {c sb : Nat} {A : Src c (G3x sb)} {h : Gag} {q p : Nat} {P : PP} {m : MD} {t : A.T} {b : BS} {s : A.S}
end
section
variable {c sb : Nat} {A : Src c (G3x sb)} {h : Gag} {q p : Nat} {P : PP} {m : MD} {t : A.T} {b : BS} {s : A.S} {k : List Ga1} {R : RP}
end
section
variable {c sb : Nat} {A : Src c (G3x sb)} {h : Gag} {p : Nat} {t : A.T} {b : BS} {s : A.S}
end
section
variable {h : Gag} {R : RP} {d pb n value size : Nat} {dv : Value} {D p : List Nat} {a : AD}
end
section
variable {d pb q sb c N : Nat} {dv rs : Value} {D : List Nat} {h h' : Gag} {av : Value} {s : QR}
end
section
variable {h : Gag} {R : RP} {e pb lb : Nat} {a : AE}
end
section
variable {h : Gag} {R : RP} {q : Nat} {sv : Value} {bs : List Nat}
end
section
variable {h : Gag} {R : RP} {q : Nat} {sv : Value} {bs : List Nat}
end
section
variable {h : Gag} {R : RP}
end
section
variable {h h' : Gag} {R : RP} {e q N : Nat} {own : Nat→Prop} {st : S2}
end
section
variable {R : RP} {e q : Nat}
end
section
variable {R : RP} {e pb lb : Nat} {a : AE}
end
section
variable {h h' : Gag} {d pb : Nat} {dv : Value} {D : List Nat} {on : Bool} {a : AD} {N : Nat}
end
section
variable {R : RP} {h : Gag}
end
section
variable {R : RP} {h : Gag}
end
section
variable {hM : Gag} {R : RP}
end
section
variable {h : Gag} {R : RP}
end
section
variable {h : Gag} {p c : Nat} {b : BS}
end
section
variable {h0 : Gag} {p c : Nat} {b : BS} {P n : Nat} {pl kd : Int} {k : List Ga1} {R : RP} {a0 : Option Addr} {c0 : Nat}
end
section
variable {h : Gag} {pv dv : Value} {pl : Int} {ps : List Int} {ds : List Nat} {m : MD}
end
section
variable {R : RP}
end
section
variable {h : Gag} {cv pv dv : Value} {pl w hh o a b wt s : Int} {m : MD} {ps cs : List Int} {ds : List Nat}
end
section
variable {R : RP} {hB : Gag} {B O : Nat} {cv pv dv : Value} {pl w hh o a b wt s : Int} {m : MD} {ps : List Int} {aft : Nat→Int × Int} {fin : Int × List Int × List Int} {K : List Ga1}
end
section
variable {h : Gag} {cv pv dv : Value} {pl w hh o a b wt s : Int} {m : MD} {ps cs : List Int} {ds : List Nat}
end
section
variable {h : Gag} {R : RP} {s t : Value} {xs ys : List Int}
end
section
variable {h : Gag} {R : RP} {s t : Value} {xs ys : List Int}
end
theorem ex_ran : (run tab 1000 R21 [.code R21.body] (Gby R21 []) []).map (·.1) = some (.bool true):=by kernel_rfl
theorem Gk7 {h : Gag} {R : RP} : Ret tab 21 [] h R = R (.bool true) h:=iso_eq rfl rfl rfl ex_ran rfl
section
variable {h : Gag} {cv pv dv : Value} {pl w hh o a b wt s : Int} {ps cs : List Int} {x1 x2 x3 x4 x5 : Bool}
theorem G3g {ds : List Nat} (hp : Rk .i64 h pv ps) (hd : Rk .u8 h dv (ds.map Int.ofNat)) (hc : Rk .i64 h cv cs) (hds : ∀ x ∈ ds,x < 256) (hl : ps.length < 90000) (hdl : ds.length < 1000000000) :
  ∃ v1 v2 h',(∀ R : RP,Ret tab 22 [cv,.agg #[.int .i64 pl,pv,dv],.agg #[.int .i64 w,.int .i64 hh,.int .i64 o,.bool x1,.bool x2,.bool x3,.bool x4,.bool x5,.int .i64 a,.int .i64 b,.int .i64 wt,.int .i64 s]] h R = R (.tuple #[.agg #[v1,v2],.int .i64 (Gpv ⟨x1,x2,x3,x4,x5⟩ pl ps ds w hh o cs a b wt s).1]) h')∧Gjr h h' v1 v2 (Gpv ⟨x1,x2,x3,x4,x5⟩ pl ps ds w hh o cs a b wt s):=by
 have key : ∀ R0 : RP,(∀ v1 v2 h',Gjr h h' v1 v2 (Gpv ⟨x1,x2,x3,x4,x5⟩ pl ps ds w hh o cs a b wt s)→R0 (.tuple #[.agg #[v1,v2],.int .i64 (Gpv ⟨x1,x2,x3,x4,x5⟩ pl ps ds w hh o cs a b wt s).1]) h')→Ret tab 22 [cv,.agg #[.int .i64 pl,pv,dv],.agg #[.int .i64 w,.int .i64 hh,.int .i64 o,.bool x1,.bool x2,.bool x3,.bool x4,.bool x5,.int .i64 a,.int .i64 b,.int .i64 wt,.int .i64 s]] h R0:=by
  intro R0 hR
  generalize hH : h++[some (⟨false,[.int .i64 pl,pv,dv]⟩ : Blk),some ⟨false,[.int .i64 w,.int .i64 hh,.int .i64 o,.bool x1,.bool x2,.bool x3,.bool x4,.bool x5,.int .i64 a,.int .i64 b,.int .i64 wt,.int .i64 s]⟩,some ⟨false,[.slice none 0 0,.slice none 0 0]⟩] = H
  have lH : H.length = h.length + 3:=by rw [← hH]; simp
  have kH : ∀ id,id < h.length→blk? H id = blk? h id:=fun id hid=>by rw [← hH]; exact Gbf hid
  have b0 : blk? H h.length = some ⟨false,[.int .i64 pl,pv,dv]⟩:=by rw [← hH,Gbe]; rfl
  have b1 : blk? H (h.length + 1) = some ⟨false,[.int .i64 w,.int .i64 hh,.int .i64 o,.bool x1,.bool x2,.bool x3,.bool x4,.bool x5,.int .i64 a,.int .i64 b,.int .i64 wt,.int .i64 s]⟩:=by rw [← hH,Ga0]; rfl
  have b2 : blk? H (h.length + 2) = some ⟨false,[.slice none 0 0,.slice none 0 0]⟩:=by rw [← hH,Ga0]; rfl
  have hpH : Rk .i64 H pv ps:=by rw [← hH]; exact hp.push _
  have hdH : Rk .u8 H dv (ds.map Int.ofNat):=by rw [← hH]; exact hd.push _
  have hcH : Rk .i64 H cv cs:=by rw [← hH]; exact hc.push _
  obtain ⟨v1,v2,H1,e1,V⟩:=Qbo (m:=⟨x1,x2,x3,x4,x5⟩) (pl:=pl) (w:=w) (hh:=hh) (o:=o) (a:=a) (b:=b) (wt:=wt) (s:=s) hpH hdH hcH hds hl hdl
  have lo:=V.low
  have le:=V.len
  have d2 : blk? H1 (h.length + 2) = some ⟨false,[.slice none 0 0,.slice none 0 0]⟩:=by rw [lo _ (by omega)]; exact b2
  generalize hS : H1.set (h.length + 2) (some ⟨false,[v1,v2]⟩) = H2
  have d2' : blk? H2 (h.length + 2) = some ⟨false,[v1,v2]⟩:=by rw [← hS]; exact blk?_set_eq (by omega)
  have l2 : H2.length = H1.length:=by rw [← hS]; simp
  have nS : ∀ id,id ≠ h.length + 2→blk? H2 id = blk? H1 id:=fun id hid=>by rw [← hS]; exact blk?_set_ne (by omega)
  have hR':=hR v1 v2 H2 ⟨Gep V.o1 fun id hid=>nS id (by have:=V.fr id (.inl hid); omega),Gep V.o2 fun id hid=>nS id (by have:=V.fr id (.inr hid); omega),fun id hid=>by rw [nS id (by omega),lo id (by omega),kH id hid],by omega,fun id hid=>by have:=V.fr id hid; omega,V.ne⟩
  clear V
  generalize Gpv ⟨x1,x2,x3,x4,x5⟩ pl ps ds w hh o cs a b wt s = X at *
  simp only [MD.val] at e1
  rw [G9y,B22]
  simp [book,Ghq,Gd0,Gb5,Ghw,Gbq,Gcg,veq,hH,b0,b1,e1,d2,hS,d2',Gae,R22,Gbu,Gpk]
  exact hR'
 obtain ⟨v,h',e,v1,v2,rfl,V⟩:=Gck (key (fun v h'=>∃ v1 v2,v = .tuple #[.agg #[v1,v2],.int .i64 (Gpv ⟨x1,x2,x3,x4,x5⟩ pl ps ds w hh o cs a b wt s).1]∧Gjr h h' v1 v2 (Gpv ⟨x1,x2,x3,x4,x5⟩ pl ps ds w hh o cs a b wt s)) fun v1 v2 h' V=>⟨v1,v2,rfl,V⟩)
 exact ⟨v1,v2,h',e,V⟩
end
open Go.Sim
open Go.RowKit
theorem Gf0 (v : Int) (s : Nat) : Gbn v s≤1:=by unfold Gbn; omega
def fin : Nat→List (Int × Nat)→Nat
 | s,[]=>s
 | s,p :: l =>
  if s = 1 then fin 2 l
  else if s = 2 then fin 0 l
  else if p.1≤8∨14≤p.1∧p.1≤16 then fin 0 l
  else if p.1 = 17 then (if p.2 = 0 then fin 0 l else fin 1 l)
  else fin 0 l
def un (b : BS) (p : Int × Int) : Nat:=if (b.get p.1 p.2).t = true then 0 else 1
def Gw5 (b : BS) (p : Int × Int) : Prop:=(b.get p.1 p.2).s = true→(b.get p.1 p.2).t = true
theorem Ggc {b : BS} {x : Int} {q : Bool} : ∀ {n : Nat} {y : Int},Ga8 b x y q n = true→∀ j : Nat,j < n→(b.get x (y + j)).s = false∧(b.get x (y + j)).t = false
 | 0,_,_,j,hj=>by omega
 | n + 1,y,h,j,hj=>by
  simp only [Ga8,still,Bool.and_eq_true,Bool.not_eq_true'] at h
  cases j with
  | zero=>simpa using h.1.1
  | succ j =>
   have:=Ggc h.2 j (by omega)
   rw [show y + ((j + 1 : Nat) : Int) = y + 1 + j by omega]; exact this
theorem Glg : ∀ (l : List (Int × Int)) {σ : ES},σ.b.Good→Gca σ.b l →
  (∀ p ∈ l,((σ.clear l).b.get p.1 p.2).t = false)∧(∀ p : Int × Int,(σ.b.get p.1 p.2).t = false→((σ.clear l).b.get p.1 p.2).t = false)∧(σ.clear l).out = σ.out
 | [],σ,_,_=>⟨fun p hp=>(by cases hp),fun p hp=>hp,rfl⟩
 | p :: l,σ,hg,ha=>by
  have hi:=ha p (by simp)
  have hl:=Gis hg hi (Gbh false)
  obtain ⟨b1,b2,b3⟩:=Glg l (σ:=σ.map p.1 p.2 (Gbz false)) hl.good (Gca.le (fun q hq=>ha q (by simp [hq])) hl)
  have hgt : ∀ x y,(σ.map p.1 p.2 (Gbz false)).b.get x y = if x = p.1∧y = p.2 then Gbz false (σ.b.get p.1 p.2) else σ.b.get x y:=fun x y=>BS.get_upd hg.ok hi _ x y
  refine ⟨fun q hq=>?_,fun q hq=>?_,b3⟩
  ·simp only [List.mem_cons] at hq
   rcases hq with rfl | hq
   ·exact b2 q (by rw [hgt,if_pos ⟨rfl,rfl⟩]; rfl)
   ·exact b1 q hq
  ·refine b2 q ?_
   rw [hgt]
   split
   ·rfl
   ·exact hq
theorem Ggi : ∀ {n : Nat} {x y : Int} {p : Int × Int},p ∈ Gcz x y n→p.1 = x∧y≤p.2∧p.2 < y + n
 | 0,x,y,p,h=>by simp [Gcz] at h
 | n + 1,x,y,p,h=>by
  simp only [Gcz,List.mem_cons] at h
  rcases h with rfl | h
  ·exact ⟨rfl,by simp only; omega,by simp only; omega⟩
  ·obtain ⟨a,b,c⟩:=Ggi h
   exact ⟨a,by omega,by omega⟩
theorem Giy : ∀ (n : Nat) (x y : Int),(Gcz x y n).Nodup
 | 0,x,y=>by simp [Gcz]
 | n + 1,x,y=>by
  rw [Gcz,List.nodup_cons]
  exact ⟨fun h=>by have:=Ggi h; simp only at this; omega,Giy n x (y + 1)⟩
theorem Gd2 {h : Nat} : ∀ {n : Nat} {x top : Int} {p : Int × Int},p ∈ Ga3 h x top n→x≤p.1∧p.1 < x + n∧top≤p.2∧p.2 < top + 4
 | 0,x,y,p,hp=>by simp [Ga3] at hp
 | n + 1,x,top,p,hp=>by
  simp only [Ga3,List.mem_append] at hp
  rcases hp with hp | hp
  ·have:=Ggi hp; omega
  ·have:=Gd2 hp; omega
theorem Gfx {h : Nat} : ∀ (n : Nat) (x top : Int),(Ga3 h x top n).Nodup
 | 0,x,y=>by simp [Ga3]
 | n + 1,x,top=>by
  rw [Ga3,List.nodup_append]
  refine ⟨Giy _ x top,Gfx n (x + 1) top,fun a ha b hb e=>?_⟩
  have h1:=Ggi ha
  have h2:=Gd2 hb
  rw [e] at h1
  omega
theorem Gk9 {w h : Nat} : ∀ {n : Nat} {top : Int} {p : Int × Int},p ∈ Gbw w h top n→top≤p.2
 | 0,y,p,hp=>by simp [Gbw] at hp
 | n + 1,top,p,hp=>by
  simp only [Gbw,List.mem_append] at hp
  rcases hp with hp | hp
  ·exact (Gd2 hp).2.2.1
  ·have:=Gk9 hp; omega
theorem Ghk {w h : Nat} : ∀ (n : Nat) (top : Int),(Gbw w h top n).Nodup
 | 0,y=>by simp [Gbw]
 | n + 1,top=>by
  rw [Gbw,List.nodup_append]
  refine ⟨Gfx _ 0 top,Ghk n (top + 4),fun a ha b hb e=>?_⟩
  have h1:=Gd2 ha
  have h2:=Gk9 hb
  rw [e] at h1
  omega
theorem Gl4 : ∀ {n : Nat} {x y y' : Int},y≤y'→y' < y + n→(x,y') ∈ Gcz x y n
 | 0,x,y,y',h1,h2=>by omega
 | n + 1,x,y,y',h1,h2=>by
  rw [Gcz,List.mem_cons]
  by_cases h : y' = y
  ·exact .inl (by rw [h])
  ·exact .inr (Gl4 (by omega) (by omega))
theorem Ghl {h : Nat} : ∀ {n : Nat} {x x' top y : Int},x≤x'→x' < x + n→top≤y→y < top + 4→y < h→(x',y) ∈ Ga3 h x top n
 | 0,x,x',top,y,h1,h2,h3,h4,h5=>by omega
 | n + 1,x,x',top,y,h1,h2,h3,h4,h5=>by
  rw [Ga3,List.mem_append]
  by_cases hx : x' = x
  ·subst hx; exact .inl (Gl4 h3 (by omega))
  ·exact .inr (Ghl (by omega) (by omega) h3 h4 h5)
theorem Gka {w h : Nat} : ∀ {n : Nat} {x y top : Int},0≤x→x < w→top≤y→y < top + 4 * n→y < h→(x,y) ∈ Gbw w h top n
 | 0,x,y,top,h1,h2,h3,h4,h5=>by omega
 | n + 1,x,y,top,h1,h2,h3,h4,h5=>by
  rw [Gbw,List.mem_append]
  by_cases hy : y < top + 4
  ·exact .inl (Ghl h1 (by omega) h3 hy h5)
  ·exact .inr (Gka h1 h2 (by omega) (by omega) h5)
theorem Gvg {w h : Nat} {x y : Int} (h1 : 0≤x) (h2 : x < w) (h3 : 0≤y) (h4 : y < h) : (x,y) ∈ scan w h :=
 Gka h1 h2 h3 (by unfold Gai; omega) h4
theorem Gyj (k : Nat) : (kindOf k = 0∧kindOf (k + 1) = 1)∨(kindOf k = 1∧kindOf (k + 1) = 2)∨(kindOf k = 2∧kindOf (k + 1) = 0):=by
 unfold kindOf
 split <;> simp <;> omega
theorem Gx4 (w h : Nat) : (scan w h).Nodup:=Ghk _ 0
def Gps (k n : Nat) : Nat:=n / 2 ^ k * 2 ^ k
def Gok (k : Nat) (v : Int) : Int:=if v < 0 then -(Gps k v.natAbs : Int) else (Gps k v.natAbs : Int)
theorem G88 (k n : Nat) : Gps k n≤n:=Nat.div_mul_le_self n _
theorem Qan {k s n : Nat} (hk : k≤s) (h : 2 ^ s≤n) : 2 ^ s≤Gps k n:=by
 unfold Gps
 have h1 : 2 ^ s = 2 ^ (s - k) * 2 ^ k:=by rw [← Nat.pow_add]; congr 1; omega
 rw [h1]
 refine Nat.mul_le_mul_right _ ?_
 rw [Nat.le_div_iff_mul_le (Nat.two_pow_pos k),← h1]; exact h
theorem Gtk (k : Nat) (v : Int) : (Gok k v).natAbs = Gps k v.natAbs:=by unfold Gok; split <;> omega
theorem Gwn {k : Nat} {v : Int} (h : 2 ^ k≤v.natAbs) : Gok k v < 0 ↔ v < 0:=by
 have:=Qan (Nat.le_refl k) h
 have hp:=Nat.two_pow_pos k
 unfold Gok
 split <;> omega
section
variable {k : Nat} {P : PP} {σ τ : ES}
theorem Gqn {b : BS} {s : Nat} {x : Int} : ∀ {n : Nat} {y : Int} {j : Nat},Gbo b s x y n = some j→Gbn (b.get x (y + j)).v s = 1
 | 0,_,_,h=>by simp [Gbo] at h
 | n + 1,y,j,h=>by
  simp only [Gbo] at h
  split at h
  ·injection h with h; subst h; simpa using (by assumption)
  ·rw [Option.map_eq_some_iff] at h
   obtain ⟨i,hi,rfl⟩:=h
   have:=Gqn hi
   rw [show y + ((i + 1 : Nat) : Int) = y + 1 + i by omega]; exact this
end
theorem Gd3 (m : MD) (planes o : Nat) : ∀ (n c k : Nat) (b : BS),n≤c→(Gaf m planes o c k b).take n = Gaf m planes o n k b
 | 0,c,k,b,_=>by simp [Gaf]
 | n + 1,0,k,b,h=>by omega
 | n + 1,c + 1,k,b,h=>by
  rw [Gaf,List.take_succ_cons,Gd3 m planes o n c (k + 1) _ (by omega)]; rfl
def G2h (p : Int × Nat) : Int × Int:=(p.1,(p.2 : Int))
def Gbr {α : Type} (σ τ : ES) (t : Tr α) (a : α) : Prop:=∃ new,τ.out = σ.out++new∧∀ l,t.play (new.map G2h++l) = some (a,l)
theorem Gbr.ret {α : Type} {σ τ : ES} (h : τ.out = σ.out) (a : α) : Gbr σ τ (.ret a) a:=⟨[],by simp [h],fun l=>rfl⟩
theorem Gbr.bind {α β : Type} {σ τ υ : ES} {t : Tr α} {a : α} {f : α→Tr β} {b : β} (h : Gbr σ τ t a) (k : Gbr τ υ (f a) b) : Gbr σ υ (t.bind f) b:=by
 obtain ⟨n,h1,h2⟩:=h
 obtain ⟨m,k1,k2⟩:=k
 refine ⟨n++m,by rw [k1,h1,List.append_assoc],fun l=>?_⟩
 rw [List.map_append,List.append_assoc,Tr.play_bind,h2]
 exact k2 l
theorem Gbr.ask {α : Type} {P : PP} {σ τ : ES} {c : Int} {n : Nat} (hn : n≤1) {k : Bool→Tr α} {a : α} (h : Gbr (σ.emit P c n) τ (k (n == 1)) a) : Gbr σ τ (.ask (P.cx c) k) a:=by
 obtain ⟨m,h1,h2⟩:=h
 refine ⟨(P.cx c,n) :: m,by rw [h1]; simp [ES.emit,PP.cx],fun l=>?_⟩
 have hn' : (n : Int) = 0∨(n : Int) = 1:=by omega
 have hb : ((n : Int) == 1) = (n == 1):=by
  rcases hn' with h | h
  ·obtain rfl : n = 0:=by omega
   rfl
  ·obtain rfl : n = 1:=by omega
   rfl
 rw [List.map_cons,List.cons_append,Tr.play,if_pos ⟨rfl,hn'⟩]
 show (k ((n : Int) == 1)).play _ = _
 rw [hb]
 exact h2 l
theorem Gbr.out {α : Type} {σ τ τ' : ES} {t : Tr α} {a : α} (h : Gbr σ τ t a) (ho : τ'.out = τ.out) : Gbr σ τ' t a:=by
 obtain ⟨n,h1,h2⟩:=h
 exact ⟨n,by rw [ho,h1],h2⟩
structure CR (m : Nat) (e d : Cell) : Prop where
 s : d.s = e.s
 t : d.t = e.t
 r : d.r = e.r
 v : d.v = Gok m e.v
 sg : e.s = true ↔ 2 ^ m≤e.v.natAbs
theorem G0e {m n : Nat} (h : n < 2 ^ m) : Gps m n = 0:=by unfold Gps; rw [Nat.div_eq_of_lt h]; simp
theorem Gga {m : Nat} {v : Int} (h : v.natAbs < 2 ^ m) : Gok m v = 0:=by unfold Gok; rw [G0e h]; simp
theorem CR.zero (m : Nat) : CR m .zero .zero:=by
 have h : (0 : Int).natAbs < 2 ^ m:=Nat.two_pow_pos m
 exact ⟨rfl,rfl,rfl,(Gga h).symm,⟨fun e=>by simp [Cell.zero] at e,fun e=>absurd e (by simp [Cell.zero])⟩⟩
theorem G1d (s n : Nat) : Gps s n = Gps (s + 1) n + n / 2 ^ s % 2 * 2 ^ s:=by
 unfold Gps
 have h1 : n / 2 ^ (s + 1) = n / 2 ^ s / 2:=by rw [Nat.pow_succ,Nat.div_div_eq_div_mul]
 rw [h1,Nat.pow_succ]
 generalize n / 2 ^ s = q
 have h2 : q = q / 2 * 2 + q % 2:=by omega
 have h3 : q / 2 * (2 ^ s * 2) = q / 2 * 2 * 2 ^ s:=by rw [Nat.mul_comm (2 ^ s) 2,Nat.mul_assoc]
 rw [h3,← Nat.add_mul,← h2]
theorem Gj5 {s n : Nat} (h : n < 2 ^ (s + 1)) : n / 2 ^ s % 2 = n / 2 ^ s∧(n / 2 ^ s = 1 ↔ 2 ^ s≤n):=by
 have hp:=Nat.two_pow_pos s
 have h2 : n / 2 ^ s < 2:=by rw [Nat.div_lt_iff_lt_mul hp,Nat.mul_comm]; rw [Nat.pow_succ] at h; omega
 refine ⟨Nat.mod_eq_of_lt h2,fun e=>?_,fun e=>?_⟩
 ·apply Nat.le_of_not_lt
  intro hlt
  rw [Nat.div_eq_of_lt hlt] at e
  omega
 ·have:=Nat.div_le_div_right (c:=2 ^ s) e
  rw [Nat.div_self hp] at this
  omega
structure RV (M : Int→Int→Nat) (e d : BS) : Prop where
 w : d.w = e.w
 h : d.h = e.h
 c : ∀ x y,CR (M x y) (e.get x y) (d.get x y)
theorem RV.inb {M : Int→Int→Nat} {e d : BS} (h : RV M e d) {x y : Int} (hi : e.inb x y) : d.inb x y:=by
 obtain ⟨a1,a2,a3,a4⟩:=hi
 exact ⟨a1,by rw [h.w]; exact a2,a3,by rw [h.h]; exact a4⟩
theorem RV.out {M : Int→Int→Nat} {e d : BS} (h : RV M e d) {x y : Int} (hi : ¬ e.inb x y) (m : Nat) : CR m (e.get x y) (d.get x y):=by
 rw [BS.get_out hi,BS.get_out (fun k=>hi ⟨k.1,by have:=k.2.1; rwa [h.w] at this,k.2.2.1,by have:=k.2.2.2; rwa [h.h] at this⟩)]
 exact CR.zero m
theorem RV.congr {M M' : Int→Int→Nat} {e d : BS} (h : RV M e d) (hm : ∀ x y,e.inb x y→M' x y = M x y) : RV M' e d:=by
 refine ⟨h.w,h.h,fun x y=>?_⟩
 by_cases hi : e.inb x y
 ·rw [hm x y hi]; exact h.c x y
 ·exact h.out hi _
section
variable {M : Int→Int→Nat} {e d : BS}
theorem rv_one (h : RV M e d) (x y : Int) : one d x y = one e x y:=by unfold one; rw [(h.c x y).s]
theorem Qdh (h : RV M e d) (x y : Int) (q : Bool) : nbH d x y = nbH e x y∧nbV d x y q = nbV e x y q∧nbD d x y q = nbD e x y q:=by
 unfold nbH nbV nbD
 simp only [rv_one h]
 exact ⟨trivial,trivial,trivial⟩
theorem Gs1 (h : RV M e d) (x y : Int) (q : Bool) : Gg8 d x y q = Gg8 e x y q:=by
 obtain ⟨a1,a2,a3⟩:=Qdh h x y q
 unfold Gg8; rw [a1,a2,a3]
theorem rv_sgn (h : RV M e d) (x y : Int) : sgn d x y = sgn e x y:=by
 have hc:=h.c x y
 unfold sgn
 rw [hc.s]
 split
 ·rename_i hs
  rw [hc.v]
  have:=Gwn (hc.sg.1 hs)
  by_cases hv : (e.get x y).v < 0
  ·rw [if_pos hv,if_pos (this.2 hv)]
  ·rw [if_neg hv,if_neg (fun e=>hv (this.1 e))]
 ·rfl
theorem rv_sg (h : RV M e d) (x y : Int) (q : Bool) : sgH d x y = sgH e x y∧sgV d x y q = sgV e x y q:=by
 unfold sgH sgV
 simp only [rv_sgn h]
 exact ⟨trivial,trivial⟩
theorem G76 (h : RV M e d) (P : PP) (x y : Int) : Gf1 P d x y = Gf1 P e x y:=by
 obtain ⟨n1,n2,n3⟩:=Qdh h x y P.cz
 unfold Gf1; rw [n1,n2,n3]
theorem Gio (h : RV M e d) (x : Int) (q : Bool) : ∀ (n : Nat) (y : Int),Ga8 d x y q n = Ga8 e x y q n
 | 0,_=>rfl
 | n + 1,y=>by
  have hc:=h.c x y
  rw [Ga8,Ga8,Gio h x q n,still,still,hc.s,hc.t,Gs1 h]
theorem G39 (h : RV M e d) (x y : Int) (q : Bool) : quiet d x y q = quiet e x y q:=by
 unfold quiet; rw [Gio h,h.h]
theorem G64 (h : RV M e d) (he : e.Ok) (hd : d.Ok) {x y : Int} (hi : e.inb x y) {f g : Cell→Cell} {m : Nat} (hc : CR m (f (e.get x y)) (g (d.get x y))) :
  RV (fun x' y'=>if x' = x∧y' = y then m else M x' y') (e.upd x y f) (d.upd x y g):=by
 refine ⟨h.w,h.h,fun x' y'=>?_⟩
 rw [BS.get_upd he hi,BS.get_upd hd (h.inb hi)]
 by_cases hx : x' = x∧y' = y
 ·rw [if_pos hx,if_pos hx,if_pos hx]; exact hc
 ·rw [if_neg hx,if_neg hx,if_neg hx]; exact h.c x' y'
end
theorem G55 {m : Nat} {v : Int} : Gok m v = if v < 0 then -(Gps m v.natAbs : Int) else (Gps m v.natAbs : Int):=rfl
theorem Qem (s : Nat) : pw s = ((2 ^ s : Nat) : Int):=rfl
theorem Gca.tail_le {b b' : BS} {p : Int × Int} {l : List (Int × Int)} (h : Gca b (p :: l)) (hw : b'.w = b.w) (hh : b'.h = b.h) : Gca b' l:=fun q hq=>by
 obtain ⟨a1,a2,a3,a4⟩:=h q (by simp [hq])
 exact ⟨a1,by rw [hw]; exact a2,a3,by rw [hh]; exact a4⟩
structure Stt {α : Type} (σ τ : ES) (t : Tr α) (a : α) (M : Int→Int→Nat) (d : BS) : Prop where
 pl : Gbr σ τ t a
 rv : RV M τ.b d
 ge : τ.b.Good
 gd : d.Good
 ew : τ.b.w = σ.b.w
 eh : τ.b.h = σ.b.h
section
variable {P : PP} (hp : P.Ok) {M : Int→Int→Nat} {σ : ES} {d : BS}
include hp
theorem G1n (h : RV M σ.b d) (ge : σ.b.Good) (gd : d.Good) {x y : Int} (hi : σ.b.inb x y) (hm : M x y = P.s + 1) (hs : (σ.b.get x y).s = false) (hb : Gbn (σ.b.get x y).v P.s = 1) :
  ∃ d',Stt σ (σ.sign P x y) (Gi0 P d x y) d' (fun x' y'=>if x' = x∧y' = y then P.s else M x' y') d'∧(∀ x' y',((σ.sign P x y).b.get x' y').t = (σ.b.get x' y').t) ∧
   (∀ x' y',¬ (x' = x∧y' = y)→(σ.sign P x y).b.get x' y' = σ.b.get x' y'):=by
 have hc:=h.c x y
 rw [hm] at hc
 have hlt : (σ.b.get x y).v.natAbs < 2 ^ (P.s + 1):=by
  apply Nat.lt_of_not_le
  intro hle
  have:=hc.sg.2 hle
  rw [hs] at this; cases this
 obtain ⟨b1,b2⟩:=Gj5 hlt
 have hbit : Gbn (σ.b.get x y).v P.s = (σ.b.get x y).v.natAbs / 2 ^ P.s:=b1
 have hbig : 2 ^ P.s≤(σ.b.get x y).v.natAbs:=b2.1 (by rw [← hbit]; exact hb)
 obtain ⟨s1,s2⟩:=rv_sg h x y P.cz
 have hsb : Gdd P σ.b x y≤1:=by unfold Gdd; omega
 have hcut : Gps P.s (σ.b.get x y).v.natAbs = 2 ^ P.s:=by unfold Gps; rw [← hbit,hb]; omega
 have hval : Gw2 P d x y (Gdd P σ.b x y == 1) = Gok P.s (σ.b.get x y).v:=by
  unfold Gw2 Qcd Gdd
  rw [s1,s2,G55,hcut,Qem]
  have hf : Gce (sgH σ.b x y) (sgV σ.b x y P.cz)≤1:=by unfold Gce; split <;> omega
  generalize Gce (sgH σ.b x y) (sgV σ.b x y P.cz) = fl at *
  have hf' : fl = 0∨fl = 1:=by omega
  unfold Gp3
  by_cases hv : (σ.b.get x y).v < 0
  ·rw [if_pos hv,if_pos hv]
   cases P.rw <;> rcases hf' with rfl | rfl <;> simp
  ·rw [if_neg hv,if_neg hv]
   cases P.rw <;> rcases hf' with rfl | rfl <;> simp
 refine ⟨Qc1 P d x y (Gdd P σ.b x y == 1),⟨?_,?_,?_,?_,rfl,rfl⟩,?_,?_⟩
 ·unfold Gi0
  rw [s1,s2]
  refine Gbr.ask hsb ?_
  exact Gbr.ret rfl _
 ·show RV _ (σ.b.upd x y mark) _
  have hu : RV (fun x' y'=>if x' = x∧y' = y then P.s else M x' y') (σ.b.upd x y mark) (d.upd x y fun c=>mark (G2e (Gw2 P d x y (Gdd P σ.b x y == 1)) c)):=by
   refine G64 h ge.ok gd.ok hi ⟨rfl,hc.t,hc.r,?_,?_⟩
   ·exact hval
   ·exact ⟨fun _=>hbig,fun _=>rfl⟩
  have e : Qc1 P d x y (Gdd P σ.b x y == 1) = d.upd x y fun c=>mark (G2e (Gw2 P d x y (Gdd P σ.b x y == 1)) c):=by
   unfold Qc1
   have hi':=h.inb hi
   have g1:=BS.get_upd gd.ok hi' (G2e (Gw2 P d x y (Gdd P σ.b x y == 1))) x y
   rw [if_pos ⟨rfl,rfl⟩] at g1
   unfold BS.upd at g1 ⊢
   rw [g1]
   simp [BS.idx,List.set_set]
  rw [e]; exact hu
 ·exact ge.upd hi Gkh
 ·exact (G03 hp gd (h.inb hi) _).good
 ·intro x' y'
  show ((σ.b.upd x y mark).get x' y').t = _
  rw [BS.get_upd ge.ok hi]
  split
  ·rename_i hx; obtain ⟨rfl,rfl⟩:=hx; rfl
  ·rfl
 ·intro x' y' hx
  show (σ.b.upd x y mark).get x' y' = _
  rw [BS.get_upd ge.ok hi,if_neg hx]
omit hp in
theorem G8t {m : Nat} {e d : Cell} (hc : CR m e d) (hs : e.s = false) : e.v.natAbs < 2 ^ m:=by
 apply Nat.lt_of_not_le
 intro hle
 have:=hc.sg.2 hle
 rw [hs] at this; cases this
omit hp in
theorem Gsj {s : Nat} {e d : Cell} (hc : CR (s + 1) e d) (hs : e.s = false) (hb : Gbn e.v s = 0) : CR s e d:=by
 have hlt:=G8t hc hs
 obtain ⟨b1,b2⟩:=Gj5 hlt
 have hbit : Gbn e.v s = e.v.natAbs / 2 ^ s:=b1
 have hsm : e.v.natAbs < 2 ^ s:=by
  apply Nat.lt_of_not_le
  intro hle
  have:=b2.2 hle
  omega
 refine ⟨hc.s,hc.t,hc.r,?_,?_⟩
 ·rw [hc.v,Gga hlt,Gga hsm]
 ·rw [hs]
  exact ⟨fun e=>(by cases e),fun e=>absurd e (by omega)⟩
theorem G0s (h : RV M σ.b d) (ge : σ.b.Good) (gd : d.Good) {x y : Int} (hi : σ.b.inb x y) (hm : M x y = P.s + 1) (hs : (σ.b.get x y).s = false) :
  ∃ d',Stt σ (σ.code P x y) (Gig P d x y) d' (fun x' y'=>if x' = x∧y' = y then P.s else M x' y') d'∧(∀ x' y',((σ.code P x y).b.get x' y').t = (σ.b.get x' y').t) ∧
   (∀ x' y',¬ (x' = x∧y' = y)→(σ.code P x y).b.get x' y' = σ.b.get x' y'):=by
 have hc:=h.c x y
 rw [hm] at hc
 unfold ES.code Gig
 by_cases hb : Gbn (σ.b.get x y).v P.s = 1
 ·rw [if_pos hb]
  obtain ⟨d',st,c1,c2⟩:=G1n (σ:=σ.emit P (Gf1 P σ.b x y) (Gbn (σ.b.get x y).v P.s)) hp h ge gd hi hm hs hb
  refine ⟨d',⟨?_,st.rv,st.ge,st.gd,st.ew,st.eh⟩,c1,c2⟩
  rw [G76 h]
  refine Gbr.ask (n:=Gbn (σ.b.get x y).v P.s) (Gf0 _ _) ?_
  have e : (Gbn (σ.b.get x y).v P.s == 1) = true:=by rw [hb]; rfl
  rw [e]
  simp only [if_true]
  exact st.pl
 ·have hb0 : Gbn (σ.b.get x y).v P.s = 0:=by unfold Gbn at *; omega
  rw [if_neg hb]
  refine ⟨d,⟨?_,⟨h.w,h.h,fun x' y'=>?_⟩,ge,gd,rfl,rfl⟩,fun _ _=>rfl,fun _ _ _=>rfl⟩
  ·rw [G76 h]
   refine Gbr.ask (n:=Gbn (σ.b.get x y).v P.s) (Gf0 _ _) ?_
   have e : (Gbn (σ.b.get x y).v P.s == 1) = false:=by rw [hb0]; rfl
   rw [e]
   exact Gbr.ret rfl _
  ·show CR _ (σ.b.get x' y') _
   by_cases hx : x' = x∧y' = y
   ·rw [if_pos hx]
    obtain ⟨rfl,rfl⟩:=hx
    exact Gsj hc hs hb0
   ·rw [if_neg hx]; exact h.c x' y'
def Mt (s : Nat) (e : BS) (x y : Int) : Nat:=if (e.get x y).t = true then s else s + 1
omit hp in
theorem Gvk {σ' : ES} {d' : BS} {M' : Int→Int→Nat} (h : RV M' σ'.b d') (ge : σ'.b.Good) (gd : d'.Good) {x y : Int} (hi : σ'.b.inb x y) (f : Cell→Cell) (hv : ∀ c,(f c).v = c.v) (hs : ∀ c,(f c).s = c.s) (ht : ∀ c c' : Cell,c'.t = c.t→(f c').t = (f c).t)
  (hr : ∀ c c' : Cell,c'.r = c.r→(f c').r = (f c).r) : RV M' (σ'.b.upd x y f) (d'.upd x y f):=by
 have hc:=h.c x y
 have:=G64 (m:=M' x y) h ge.ok gd.ok hi (f:=f) (g:=f) ⟨by rw [hs,hs]; exact hc.s,ht _ _ hc.t,hr _ _ hc.r,by rw [hv,hv]; exact hc.v,by rw [hs,hv]; exact hc.sg⟩
 refine this.congr fun x' y' _=>?_
 split
 ·rename_i e; obtain ⟨rfl,rfl⟩:=e; rfl
 ·rfl
theorem Qa3 (h : RV (Mt P.s σ.b) σ.b d) (ge : σ.b.Good) (gd : d.Good) {x y : Int} (hi : σ.b.inb x y) (ht : (σ.b.get x y).t = false) :
  ∃ d',Stt σ (σ.sig1 P x y) (Gh0 P d x y) d' (Mt P.s (σ.sig1 P x y).b) d'∧(∀ x' y',¬ (x' = x∧y' = y)→((σ.sig1 P x y).b.get x' y').t = (σ.b.get x' y').t):=by
 have hc:=h.c x y
 unfold ES.sig1 Gh0
 rw [hc.s,Gs1 h]
 split
 ·rename_i hs
  obtain ⟨d1,st,c1,c2⟩:=G0s hp h ge gd hi (by unfold Mt; rw [if_neg (by simp [ht])]) hs.1
  have hi1 : (σ.code P x y).b.inb x y:=(Gpn ge hi).inb hi
  have g:=fun x' y'=>BS.get_upd st.ge.ok hi1 (Gbz true) x' y'
  refine ⟨d1.upd x y (Gbz true),⟨st.pl.bind (Gbr.ret rfl _),?_,st.ge.upd hi1 (Gbh true),st.gd.upd (st.rv.inb hi1) (Gbh true),st.ew,st.eh⟩,?_⟩
  ·refine (Gvk st.rv st.ge st.gd hi1 (Gbz true) (fun _=>rfl) (fun _=>rfl) (fun _ _ _=>rfl) (fun _ _ e=>e)).congr fun x' y' _=>?_
   show Mt P.s ((σ.code P x y).b.upd x y (Gbz true)) x' y' = _
   unfold Mt
   rw [g]
   by_cases hx : x' = x∧y' = y
   ·rw [if_pos hx,if_pos hx,if_pos (by rfl)]
   ·rw [if_neg hx,if_neg hx,c1]
  ·intro x' y' hx
   show (((σ.code P x y).b.upd x y (Gbz true)).get x' y').t = _
   rw [g,if_neg hx,c1]
 ·exact ⟨d,⟨Gbr.ret rfl _,h,ge,gd,rfl,rfl⟩,fun _ _ _=>rfl⟩
theorem Gyy : ∀ {l : List (Int × Int)} {σ : ES} {d : BS},RV (Mt P.s σ.b) σ.b d→σ.b.Good→d.Good→Gca σ.b l→l.Nodup→(∀ p ∈ l,(σ.b.get p.1 p.2).t = false) →
  ∃ d',Stt σ (σ.sigs P l) (Ggx P d l) d' (Mt P.s (σ.sigs P l).b) d'
 | [],σ,d,h,ge,gd,_,_,_=>⟨d,⟨Gbr.ret rfl _,h,ge,gd,rfl,rfl⟩⟩
 | p :: l,σ,d,h,ge,gd,ha,hn,ht=>by
  rw [List.nodup_cons] at hn
  obtain ⟨d1,st,c⟩:=Qa3 hp h ge gd (ha p (by simp)) (ht p (by simp))
  obtain ⟨d2,st2⟩:=Gyy (l:=l) (σ:=σ.sig1 P p.1 p.2) st.rv st.ge st.gd (ha.tail_le st.ew st.eh) hn.2 (fun q hq=>by
   rw [c q.1 q.2 (fun e=>hn.1 (by have : q = p:=Prod.ext e.1 e.2; rw [← this]; exact hq))]
   exact ht q (by simp [hq]))
  exact ⟨d2,⟨st.pl.bind st2.pl,st2.rv,st2.ge,st2.gd,st2.ew.trans st.ew,st2.eh.trans st.eh⟩⟩
omit hp in
theorem G52 (m : Nat) (v : Int) : (Gok m v).natAbs≤v.natAbs:=by rw [Gtk]; exact G88 _ _
omit hp in
theorem Qbq {s : Nat} {v : Int} (hb : 2 ^ (s + 1)≤v.natAbs) : Gok s v = if Gbn v s = 1 then Glu s (Gok (s + 1) v) else Gok (s + 1) v:=by
 have hneg:=Gwn hb
 have hc:=G1d s v.natAbs
 have hb' : Gbn v s = v.natAbs / 2 ^ s % 2:=rfl
 rw [← hb'] at hc
 have h01:=Gf0 v s
 unfold Glu
 rw [Qem]
 by_cases hv : v < 0
 ·rw [if_pos (hneg.2 hv)]
  unfold Gok
  rw [if_pos hv,if_pos hv]
  split
  ·rename_i h1; rw [h1] at hc; omega
  ·have h0 : Gbn v s = 0:=by omega
   rw [h0] at hc; omega
 ·rw [if_neg (fun e=>hv (hneg.1 e))]
  unfold Gok
  rw [if_neg hv,if_neg hv]
  split
  ·rename_i h1; rw [h1] at hc; omega
  ·have h0 : Gbn v s = 0:=by omega
   rw [h0] at hc; omega
omit hp in
theorem G24 {s m : Nat} (h : s≤m) : 2 ^ s≤2 ^ m:=Nat.pow_le_pow_right (by omega) h
omit hp in
theorem Qba (h : RV (Mt P.s σ.b) σ.b d) (ge : σ.b.Good) (gd : d.Good) {x y : Int} (hi : σ.b.inb x y) :
  ∃ d',Stt σ (σ.ref1 P x y) (Gid P d x y) d' (Mt P.s (σ.ref1 P x y).b) d':=by
 have hc:=h.c x y
 unfold ES.ref1 Gid
 rw [hc.s,hc.t,hc.r,Gs1 h]
 split
 ·exact ⟨d,⟨Gbr.ret rfl _,h,ge,gd,rfl,rfl⟩⟩
 ·rename_i hno
  have hs : (σ.b.get x y).s = true:=by
   cases hs : (σ.b.get x y).s
   ·exact absurd (.inl hs) hno
   ·rfl
  have ht : (σ.b.get x y).t = false:=by
   cases ht : (σ.b.get x y).t
   ·rfl
   ·exact absurd (.inr ht) hno
  have hm : Mt P.s σ.b x y = P.s + 1:=by unfold Mt; rw [if_neg (by simp [ht])]
  rw [hm] at hc
  have hbig:=hc.sg.1 hs
  have hg:=Qbq hbig
  have hid:=h.inb hi
  have hgb : ∃ v,Gks P.s d x y (Gbn (σ.b.get x y).v P.s == 1) = d.upd x y (G2e v)∧v = Gok P.s (σ.b.get x y).v:=by
   obtain ⟨r1,r2⟩:=ge.rng x y
   have ha:=G52 P.s (σ.b.get x y).v
   unfold Gks grow
   by_cases hb : Gbn (σ.b.get x y).v P.s = 1
   ·rw [if_pos hb] at hg
    rw [hb,if_pos (by rfl),hc.v,← hg,if_pos (by omega)]
    exact ⟨_,rfl,rfl⟩
   ·rw [if_neg hb] at hg
    rw [if_neg (by simp [hb])]
    refine ⟨_,?_,rfl⟩
    rw [hg,← hc.v]
    have hgt:=BS.getElem_in gd.ok hid
    unfold BS.upd G2e
    have : d.cs.set (d.idx x y) (d.get x y) = d.cs:=by rw [← hgt]; exact List.set_getElem_self _
    rw [this]
  obtain ⟨v,e1,e2⟩:=hgb
  have hst : RV (fun x' y'=>if x' = x∧y' = y then P.s else Mt P.s σ.b x' y') ((σ.b.upd x y Gbv).upd x y (Gbz true)) (((Gks P.s d x y (Gbn (σ.b.get x y).v P.s == 1)).upd x y Gbv).upd x y (Gbz true)):=by
   have gl:=Gjj (s:=P.s) gd hid (Gbn (σ.b.get x y).v P.s == 1)
   have ge1:=ge.upd hi Gcr
   have gd1:=gl.good.upd (gl.inb hid) Gcr
   refine ⟨by show (Gks _ _ _ _ _).w = _; rw [gl.w]; exact h.w,by show (Gks _ _ _ _ _).h = _; rw [gl.h]; exact h.h,fun x' y'=>?_⟩
   rw [BS.get_upd ge1.ok hi,BS.get_upd ge.ok hi,BS.get_upd ge.ok hi,BS.get_upd gd1.ok (gl.inb hid),BS.get_upd gl.good.ok (gl.inb hid),BS.get_upd gl.good.ok (gl.inb hid),e1,BS.get_upd gd.ok hid,BS.get_upd gd.ok hid]
   by_cases hx : x' = x∧y' = y
   ·rw [if_pos hx,if_pos hx,if_pos hx,if_pos ⟨rfl,rfl⟩,if_pos ⟨rfl,rfl⟩,if_pos ⟨rfl,rfl⟩]
    refine ⟨hc.s,rfl,rfl,e2,?_⟩
    show (σ.b.get x y).s = true ↔ _
    exact ⟨fun _=>Nat.le_trans (G24 (by omega)) hbig,fun _=>hs⟩
   ·rw [if_neg hx,if_neg hx,if_neg hx,if_neg hx,if_neg hx,if_neg hx]; exact h.c x' y'
  have gl:=Gjj (s:=P.s) gd hid (Gbn (σ.b.get x y).v P.s == 1)
  have ge1:=ge.upd hi Gcr
  refine ⟨_,⟨?_,?_,ge1.upd hi (Gbh true),(gl.good.upd (gl.inb hid) Gcr).upd (gl.inb hid) (Gbh true),rfl,rfl⟩⟩
  ·refine Gbr.ask (n:=Gbn (σ.b.get x y).v P.s) (Gf0 _ _) ?_
   exact Gbr.ret rfl _
  ·refine hst.congr fun x' y' _=>?_
   show Mt P.s ((σ.b.upd x y Gbv).upd x y (Gbz true)) x' y' = _
   unfold Mt
   rw [BS.get_upd ge1.ok hi,BS.get_upd ge.ok hi,BS.get_upd ge.ok hi]
   by_cases hx : x' = x∧y' = y
   ·rw [if_pos hx,if_pos hx,if_pos (by rfl)]
   ·rw [if_neg hx,if_neg hx,if_neg hx]
omit hp in
theorem Gyi : ∀ {l : List (Int × Int)} {σ : ES} {d : BS},RV (Mt P.s σ.b) σ.b d→σ.b.Good→d.Good→Gca σ.b l →
  ∃ d',Stt σ (σ.refs P l) (Ggy P d l) d' (Mt P.s (σ.refs P l).b) d'
 | [],σ,d,h,ge,gd,_=>⟨d,⟨Gbr.ret rfl _,h,ge,gd,rfl,rfl⟩⟩
 | p :: l,σ,d,h,ge,gd,ha=>by
  obtain ⟨d1,st⟩:=Qba h ge gd (ha p (by simp))
  obtain ⟨d2,st2⟩:=Gyi (l:=l) (σ:=σ.ref1 P p.1 p.2) st.rv st.ge st.gd (ha.tail_le st.ew st.eh)
  exact ⟨d2,⟨st.pl.bind st2.pl,st2.rv,st2.ge,st2.gd,st2.ew.trans st.ew,st2.eh.trans st.eh⟩⟩
structure CZ (s : Nat) (Z : Int→Int→Prop) (e d : BS) : Prop where
 w : d.w = e.w
 h : d.h = e.h
 z : ∀ x y,(Z x y∨(e.get x y).t = true)→CR s (e.get x y) (d.get x y)
 o : ∀ x y,¬ (Z x y∨(e.get x y).t = true)→CR (s + 1) (e.get x y) (d.get x y)∧(e.inb x y→(e.get x y).s = false)
open Classical in
noncomputable def Mz (s : Nat) (Z : Int→Int→Prop) (e : BS) (x y : Int) : Nat:=if Z x y∨(e.get x y).t = true then s else s + 1
omit hp in
theorem CZ.rv {s : Nat} {Z : Int→Int→Prop} {e d : BS} (h : CZ s Z e d) : RV (Mz s Z e) e d:=by
 refine ⟨h.w,h.h,fun x y=>?_⟩
 unfold Mz
 split
 ·rename_i k; exact h.z x y k
 ·rename_i k; exact (h.o x y k).1
omit hp in
theorem CZ.congr {s : Nat} {Z Z' : Int→Int→Prop} {e d : BS} (h : CZ s Z e d) (hz : ∀ x y,e.inb x y→(Z' x y ↔ Z x y)) : CZ s Z' e d:=by
 refine ⟨h.w,h.h,fun x y k=>?_,fun x y k=>?_⟩
 ·by_cases hi : e.inb x y
  ·exact h.z x y (by rwa [hz x y hi] at k)
  ·exact h.rv.out hi _
 ·by_cases hi : e.inb x y
  ·exact h.o x y (by rwa [hz x y hi] at k)
  ·exact ⟨h.rv.out hi _,fun e=>absurd e hi⟩
structure Stc {α : Type} (σ τ : ES) (t : Tr α) (a : α) (s : Nat) (Z : Int→Int→Prop) (d : BS) : Prop where
 pl : Gbr σ τ t a
 cz : CZ s Z τ.b d
 ge : τ.b.Good
 gd : d.Good
 ew : τ.b.w = σ.b.w
 eh : τ.b.h = σ.b.h
theorem G53 {Z : Int→Int→Prop} (h : CZ P.s Z σ.b d) (ge : σ.b.Good) (gd : d.Good) {x y : Int} (hi : σ.b.inb x y) (hz : ¬ Z x y) (hs : (σ.b.get x y).s = false) (ht : (σ.b.get x y).t = false) :
  ∃ d',Stc σ (σ.code P x y) (Gig P d x y) d' P.s (fun x' y'=>Z x' y'∨(x' = x∧y' = y)) d':=by
 have hn : ¬ (Z x y∨(σ.b.get x y).t = true):=by simp [hz,ht]
 obtain ⟨d',st,c1,c2⟩:=G0s hp h.rv ge gd hi (by unfold Mz; rw [if_neg hn]) hs
 refine ⟨d',⟨st.pl,⟨st.rv.w,st.rv.h,fun x' y' k=>?_,fun x' y' k=>?_⟩,st.ge,st.gd,st.ew,st.eh⟩⟩
 ·have:=st.rv.c x' y'
  by_cases hx : x' = x∧y' = y
  ·rwa [if_pos hx] at this
  ·rw [if_neg hx] at this
   rw [c1] at k
   unfold Mz at this
   rwa [if_pos (by rcases k with (k | k) | k; exact .inl k; exact absurd k hx; exact .inr k)] at this
 ·have:=st.rv.c x' y'
  rw [c1] at k
  have hx : ¬ (x' = x∧y' = y):=fun e=>k (.inl (.inr e))
  have hk : ¬ (Z x' y'∨(σ.b.get x' y').t = true):=fun e=>k (by rcases e with e | e; exact .inl (.inl e); exact .inr e)
  rw [if_neg hx] at this
  unfold Mz at this
  rw [if_neg hk] at this
  refine ⟨this,fun hi'=>?_⟩
  rw [c2 x' y' hx]
  exact (h.o x' y' hk).2 (by obtain ⟨a1,a2,a3,a4⟩:=hi'; exact ⟨a1,by rw [← st.ew]; exact a2,a3,by rw [← st.eh]; exact a4⟩)
theorem Qbr {Z : Int→Int→Prop} (h : CZ P.s Z σ.b d) (ge : σ.b.Good) (gd : d.Good) {x y : Int} (hi : σ.b.inb x y) (hz : ¬ Z x y) :
  ∃ d',Stc σ (σ.cln1 P x y) (Gjd P d x y) d' P.s (fun x' y'=>Z x' y'∨(x' = x∧y' = y)) d':=by
 have hc:=h.rv.c x y
 unfold ES.cln1 Gjd
 rw [hc.s,hc.t]
 split
 ·rename_i k; exact G53 hp h ge gd hi hz k.1 k.2
 ·rename_i k
  have ht : (σ.b.get x y).t = true:=by
   cases ht : (σ.b.get x y).t
   ·cases hs : (σ.b.get x y).s
    ·exact absurd ⟨hs,ht⟩ k
    ·have:=(h.o x y (by simp [hz,ht])).2 hi
     rw [hs] at this; cases this
   ·rfl
  refine ⟨d,⟨Gbr.ret rfl _,⟨h.w,h.h,fun x' y' k=>?_,fun x' y' k=>?_⟩,ge,gd,rfl,rfl⟩⟩
  ·refine h.z x' y' ?_
   rcases k with (k | ⟨rfl,rfl⟩) | k
   ·exact .inl k
   ·exact .inr ht
   ·exact .inr k
  ·exact h.o x' y' (fun e=>k (by rcases e with e | e; exact .inl (.inl e); exact .inr e))
theorem Gti {x : Int} : ∀ {n : Nat} {σ : ES} {d : BS} {y : Int} {Z : Int→Int→Prop},CZ P.s Z σ.b d→σ.b.Good→d.Good→0≤x→x < σ.b.w→0≤y→y + n≤σ.b.h→(∀ y',y≤y'→y' < y + n→¬ Z x y') →
  ∃ d',Stc σ (σ.rows P x y n) (Gja P d x y n) d' P.s (fun x' y'=>Z x' y'∨(x' = x∧y≤y'∧y' < y + n)) d'
 | 0,σ,d,y,Z,h,ge,gd,_,_,_,_,_=>⟨d,⟨Gbr.ret rfl _,h.congr fun x' y' _=>⟨fun k=>by rcases k with k | k; exact k; omega,.inl⟩,ge,gd,rfl,rfl⟩⟩
 | n + 1,σ,d,y,Z,h,ge,gd,h1,h2,h3,h4,hz=>by
  obtain ⟨d1,st⟩:=Qbr hp h ge gd (x:=x) (y:=y) ⟨h1,h2,h3,by omega⟩ (hz y (by omega) (by omega))
  obtain ⟨d2,st2⟩:=Gti (n:=n) (y:=y + 1) st.cz st.ge st.gd h1 (by rw [st.ew]; exact h2) (by omega) (by rw [st.eh]; omega) (fun y' k1 k2 k3=>by
   rcases k3 with k3 | k3
   ·exact hz y' (by omega) (by omega) k3
   ·omega)
  refine ⟨d2,⟨st.pl.bind st2.pl,st2.cz.congr fun x' y' _=>?_,st2.ge,st2.gd,st2.ew.trans st.ew,st2.eh.trans st.eh⟩⟩
  constructor
  ·rintro (k | ⟨rfl,k1,k2⟩)
   ·exact .inl (.inl k)
   ·by_cases hy : y' = y
    ·exact .inl (.inr ⟨rfl,hy⟩)
    ·exact .inr ⟨rfl,by omega,by omega⟩
  ·rintro ((k | ⟨rfl,rfl⟩) | ⟨rfl,k1,k2⟩)
   ·exact .inl k
   ·exact .inr ⟨rfl,by omega,by omega⟩
   ·exact .inr ⟨rfl,by omega,by omega⟩
omit hp in
theorem Ghz {b : BS} {s : Nat} {x : Int} : ∀ {n : Nat} {y : Int} (j : Nat),j < n→(∀ k,Gbo b s x y n = some k→j < k)→Gbn (b.get x (y + j)).v s = 0
 | 0,_,j,hj,_=>by omega
 | n + 1,y,j,hj,hk=>by
  simp only [Gbo] at hk
  split at hk
  ·have:=hk 0 rfl; omega
  ·rename_i hne
   cases j with
   | zero=>have:=Gf0 (b.get x y).v s; simp; omega
   | succ j =>
    rw [show y + ((j + 1 : Nat) : Int) = y + 1 + j by omega]
    refine Ghz (n:=n) j (by omega) fun k hk'=>?_
    have:=hk (k + 1) (by rw [hk']; rfl)
    omega
theorem run_st {Z : Int→Int→Prop} (h : CZ P.s Z σ.b d) (ge : σ.b.Good) (gd : d.Good) {x top : Int} (hx : 0≤x∧x < σ.b.w) (ht : 0≤top∧top + 4≤σ.b.h) (hz : ∀ y',top≤y'→y' < top + 4→¬ Z x y')
  (hq : ∀ j : Nat,j < 4→(σ.b.get x (top + j)).s = false∧(σ.b.get x (top + j)).t = false) :
  ∃ d',Stc σ (σ.run P x top).1 (Qb5 P d x top) (d',(σ.run P x top).2) P.s (fun x' y'=>Z x' y'∨(x' = x∧top≤y'∧y' < (σ.run P x top).2)) d'∧top < (σ.run P x top).2∧(σ.run P x top).2≤top + 4:=by
 have hnz : ∀ j : Nat,j < 4→¬ (Z x (top + j)∨(σ.b.get x (top + j)).t = true):=fun j hj=>by
  have:=hz (top + j) (by omega) (by omega)
  simp [this,(hq j hj).2]
 unfold ES.run Qb5
 split
 ·rename_i k hk
  have hk4:=Gff hk
  have hbit:=Gqn hk
  have hi : σ.b.inb x (top + k):=⟨hx.1,hx.2,by omega,by omega⟩
  obtain ⟨d',st,c1,c2⟩:=G1n (σ:=((σ.emit P 17 1).emit P 18 (k / 2)).emit P 18 (k % 2)) hp h.rv ge gd hi (by show Mz _ _ _ _ _ = _; unfold Mz; rw [if_neg (hnz k hk4)]) (hq k hk4).1 hbit
  refine ⟨d',⟨?_,⟨st.rv.w,st.rv.h,fun x' y' kk=>?_,fun x' y' kk=>?_⟩,st.ge,st.gd,st.ew,st.eh⟩,by simp only; omega,by simp only; omega⟩
  ·refine Gbr.ask (n:=1) (by omega) ?_
   simp only [beq_self_eq_true,if_true]
   refine Gbr.ask (n:=k / 2) (by omega) ?_
   refine Gbr.ask (n:=k % 2) (by omega) ?_
   have e2 : Gsn (k / 2 == 1) (k % 2 == 1) = k:=by
    match k,hk4 with
    | 0,_=>rfl
    | 1,_=>rfl
    | 2,_=>rfl
    | 3,_=>rfl
   rw [e2]
   exact st.pl.bind (Gbr.ret rfl _)
  ·by_cases hxy : x' = x∧y' = top + k
   ·have:=st.rv.c x' y'
    rwa [if_pos hxy] at this
   ·have:=st.rv.c x' y'
    rw [if_neg hxy] at this
    rw [c1] at kk
    rw [c2 x' y' hxy] at this ⊢
    by_cases hzz : Z x' y'∨(σ.b.get x' y').t = true
    ·have e : Mz P.s Z σ.b x' y' = P.s:=by
      show Mz P.s Z σ.b x' y' = _
      unfold Mz; rw [if_pos hzz]
     rw [e] at this
     exact this
    ·have e : Mz P.s Z σ.b x' y' = P.s + 1:=by
      show Mz P.s Z σ.b x' y' = _
      unfold Mz; rw [if_neg hzz]
     rw [e] at this
     have hin : x' = x∧top≤y'∧y' < top + k + 1:=by
      rcases kk with (kk | kk) | kk
      ·exact absurd (.inl kk) hzz
      ·exact kk
      ·exact absurd (.inr kk) hzz
     obtain ⟨rfl,k1,k2⟩:=hin
     obtain ⟨j,hj⟩:=Int.eq_ofNat_of_zero_le (show 0≤y' - top by omega)
     obtain rfl : y' = top + j:=by omega
     have hjk : j < k:=by
      have : ¬ (j = k):=fun e=>hxy ⟨rfl,by rw [e]⟩
      omega
     refine Gsj this (hq j (by omega)).1 ?_
     refine Ghz (b:=σ.b) (n:=4) j (by omega) fun k' hk'=>?_
     rw [hk] at hk'; injection hk' with hk'; omega
  ·have hxy : ¬ (x' = x∧y' = top + k):=fun e=>kk (.inl (.inr ⟨e.1,by omega,by omega⟩))
   rw [c1] at kk
   have:=st.rv.c x' y'
   rw [if_neg hxy] at this
   have hzz : ¬ (Z x' y'∨(σ.b.get x' y').t = true):=fun e=>kk (by rcases e with e | e; exact .inl (.inl e); exact .inr e)
   have e : Mz P.s Z σ.b x' y' = P.s + 1:=by
    show Mz P.s Z σ.b x' y' = _
    unfold Mz; rw [if_neg hzz]
   rw [e] at this
   exact ⟨this,fun hi'=>by rw [c2 x' y' hxy]; exact (h.o x' y' hzz).2 hi'⟩
 ·rename_i hk
  refine ⟨d,⟨?_,⟨h.w,h.h,fun x' y' kk=>?_,fun x' y' kk=>?_⟩,ge,gd,rfl,rfl⟩,by simp only; omega,by simp only; omega⟩
  ·refine Gbr.ask (n:=0) (by omega) ?_
   exact Gbr.ret rfl _
  ·show CR _ (σ.b.get x' y') _
   by_cases hzz : Z x' y'∨(σ.b.get x' y').t = true
   ·exact h.z x' y' hzz
   ·have hin : x' = x∧top≤y'∧y' < top + 4:=by
     rcases kk with (kk | kk) | kk
     ·exact absurd (.inl kk) hzz
     ·exact kk
     ·exact absurd (.inr kk) hzz
    obtain ⟨rfl,k1,k2⟩:=hin
    obtain ⟨j,hj⟩:=Int.eq_ofNat_of_zero_le (show 0≤y' - top by omega)
    obtain rfl : y' = top + j:=by omega
    refine Gsj (h.o _ _ hzz).1 (hq j (by omega)).1 ?_
    refine Ghz (n:=4) j (by omega) fun k' hk'=>?_
    rw [hk] at hk'; cases hk'
  ·exact h.o x' y' (fun e=>kk (by rcases e with e | e; exact .inl (.inl e); exact .inr e))
theorem col_st {Z : Int→Int→Prop} (h : CZ P.s Z σ.b d) (ge : σ.b.Good) (gd : d.Good) {x top : Int} (hi : σ.b.inb x top) (hz : ∀ y',top≤y'→y' < top + 4→¬ Z x y') :
  ∃ d',Stc σ (σ.col P x top) (Gy2 P d x top) d' P.s (fun x' y'=>Z x' y'∨(x' = x∧top≤y'∧y' < top + 4)) d':=by
 obtain ⟨h1,h2,h3,h4⟩:=hi
 unfold ES.col Gy2
 rw [G39 h.rv]
 split
 ·rename_i hq
  have hq':=hq
  simp only [quiet,Bool.and_eq_true,decide_eq_true_eq] at hq'
  obtain ⟨d1,st,r1,r2⟩:=run_st hp h ge gd (x:=x) (top:=top) ⟨h1,h2⟩ ⟨h3,hq'.1⟩ hz (Ggc hq'.2)
  generalize hr : σ.run P x top = r at *
  obtain ⟨τ,yr⟩:=r
  simp only at st r1 r2 ⊢
  have hn : (min (top + 4) (τ.b.h : Int) - yr).toNat = (min (top + 4) (σ.b.h : Int) - yr).toNat:=by rw [st.eh]
  obtain ⟨d2,st2⟩:=Gti hp (n:=(min (top + 4) (σ.b.h : Int) - yr).toNat) (y:=yr) st.cz st.ge st.gd h1 (by rw [st.ew]; exact h2) (by omega) (by rw [st.eh]; omega) (fun y' k1 k2 k3=>by
   rcases k3 with k3 | k3
   ·exact hz y' (by omega) (by omega) k3
   ·omega)
  refine ⟨d2,⟨st.pl.bind ?_,st2.cz.congr fun x' y' hi'=>?_,st2.ge,st2.gd,st2.ew.trans st.ew,st2.eh.trans st.eh⟩⟩
  ·have e : (min (top + 4) (d1.h : Int) - yr).toNat = (min (top + 4) (σ.b.h : Int) - yr).toNat:=by rw [st.cz.h,st.eh]
   rw [e]; exact st2.pl
  ·constructor
   ·rintro (k | ⟨rfl,k1,k2⟩)
    ·exact .inl (.inl k)
    ·by_cases hy : y' < yr
     ·exact .inl (.inr ⟨rfl,by omega,hy⟩)
     ·exact .inr ⟨rfl,by omega,by omega⟩
   ·rintro ((k | ⟨rfl,k1,k2⟩) | ⟨rfl,k1,k2⟩)
    ·exact .inl k
    ·exact .inr ⟨rfl,by omega,by omega⟩
    ·exact .inr ⟨rfl,by omega,by omega⟩
 ·obtain ⟨d2,st2⟩:=Gti hp (n:=(min (top + 4) (σ.b.h : Int) - top).toNat) (y:=top) h ge gd h1 h2 (by omega) (by omega) (fun y' k1 k2 k3=>hz y' (by omega) (by omega) k3)
  refine ⟨d2,⟨?_,st2.cz.congr fun x' y' hi'=>?_,st2.ge,st2.gd,st2.ew,st2.eh⟩⟩
  ·rw [h.h]; exact st2.pl
  ·have hb : y' < σ.b.h:=by have:=hi'.2.2.2; rwa [st2.eh] at this
   constructor
   ·rintro (k | ⟨rfl,k1,k2⟩)
    ·exact .inl k
    ·exact .inr ⟨rfl,by omega,by omega⟩
   ·rintro (k | ⟨rfl,k1,k2⟩)
    ·exact .inl k
    ·exact .inr ⟨rfl,by omega,by omega⟩
theorem Gys {top : Int} : ∀ {n : Nat} {σ : ES} {d : BS} {x : Int} {Z : Int→Int→Prop},CZ P.s Z σ.b d→σ.b.Good→d.Good→0≤x→x + n≤σ.b.w→0≤top→top < σ.b.h→(∀ x' y',x≤x'→top≤y'→y' < top + 4→¬ Z x' y') →
  ∃ d',Stc σ (σ.cols P x top n) (Gp9 P d x top n) d' P.s (fun x' y'=>Z x' y'∨(x≤x'∧x' < x + n∧top≤y'∧y' < top + 4)) d'
 | 0,σ,d,x,Z,h,ge,gd,_,_,_,_,_=>⟨d,⟨Gbr.ret rfl _,h.congr fun x' y' _=>⟨fun k=>by rcases k with k | k; exact k; omega,.inl⟩,ge,gd,rfl,rfl⟩⟩
 | n + 1,σ,d,x,Z,h,ge,gd,h1,h2,h3,h4,hz=>by
  obtain ⟨d1,st⟩:=col_st hp h ge gd (x:=x) (top:=top) ⟨h1,by omega,h3,h4⟩ (fun y' k1 k2=>hz x y' (by omega) k1 k2)
  obtain ⟨d2,st2⟩:=Gys (n:=n) (x:=x + 1) st.cz st.ge st.gd (by omega) (by rw [st.ew]; omega) h3 (by rw [st.eh]; exact h4) (fun x' y' k0 k1 k2 k3=>by
   rcases k3 with k3 | k3
   ·exact hz x' y' (by omega) k1 k2 k3
   ·omega)
  refine ⟨d2,⟨st.pl.bind st2.pl,st2.cz.congr fun x' y' _=>?_,st2.ge,st2.gd,st2.ew.trans st.ew,st2.eh.trans st.eh⟩⟩
  constructor
  ·rintro (k | ⟨k0,k1,k2,k3⟩)
   ·exact .inl (.inl k)
   ·by_cases hx : x' = x
    ·exact .inl (.inr ⟨hx,k2,k3⟩)
    ·exact .inr ⟨by omega,by omega,k2,k3⟩
  ·rintro ((k | ⟨rfl,k1,k2⟩) | ⟨k0,k1,k2,k3⟩)
   ·exact .inl k
   ·exact .inr ⟨by omega,by omega,k1,k2⟩
   ·exact .inr ⟨by omega,by omega,k2,k3⟩
theorem Gmj : ∀ {n : Nat} {σ : ES} {d : BS} {top : Int} {Z : Int→Int→Prop},CZ P.s Z σ.b d→σ.b.Good→d.Good→0≤top→top + 4 * n≤σ.b.h + 3→(∀ x' y',top≤y'→¬ Z x' y') →
  ∃ d',Stc σ (σ.stripes P top n) (Gb9 P d top n) d' P.s (fun x' y'=>Z x' y'∨(top≤y'∧y' < top + 4 * n)) d'
 | 0,σ,d,top,Z,h,ge,gd,_,_,_=>⟨d,⟨Gbr.ret rfl _,h.congr fun x' y' _=>⟨fun k=>by rcases k with k | k; exact k; omega,.inl⟩,ge,gd,rfl,rfl⟩⟩
 | n + 1,σ,d,top,Z,h,ge,gd,h1,h2,hz=>by
  obtain ⟨d1,st⟩:=Gys hp (n:=σ.b.w) h ge gd (x:=0) (top:=top) (by omega) (by omega) h1 (by omega) (fun x' y' _ k1 _=>hz x' y' k1)
  obtain ⟨d2,st2⟩:=Gmj (n:=n) (top:=top + 4) st.cz st.ge st.gd (by omega) (by rw [st.eh]; omega) (fun x' y' k1 k2=>by
   rcases k2 with k2 | k2
   ·exact hz x' y' (by omega) k2
   ·omega)
  refine ⟨d2,⟨?_,st2.cz.congr fun x' y' hi'=>?_,st2.ge,st2.gd,st2.ew.trans st.ew,st2.eh.trans st.eh⟩⟩
  ·rw [Gb9,h.w]; exact st.pl.bind st2.pl
  ·obtain ⟨i1,i2,i3,i4⟩:=hi'
   rw [st2.ew,st.ew] at i2
   constructor
   ·rintro (k | ⟨k0,k1⟩)
    ·exact .inl (.inl k)
    ·by_cases hy : y' < top + 4
     ·exact .inl (.inr ⟨i1,by omega,k0,hy⟩)
     ·exact .inr ⟨by omega,by omega⟩
   ·rintro ((k | ⟨k0,k1,k2,k3⟩) | ⟨k0,k1⟩)
    ·exact .inl k
    ·exact .inr ⟨k2,by omega⟩
    ·exact .inr ⟨by omega,by omega⟩
omit hp in
theorem Gzn : ∀ (l : List (Int × Int)) (σ : ES),(σ.clear l).b = σ.b.clr l∧(σ.clear l).out = σ.out
 | [],σ=>⟨rfl,rfl⟩
 | p :: l,σ=>Gzn l (σ.map p.1 p.2 (Gbz false))
omit hp in
theorem G7n {M : Int→Int→Nat} : ∀ {l : List (Int × Int)} {e d : BS},RV M e d→e.Good→d.Good→Gca e l→RV M (e.clr l) (d.clr l)
 | [],e,d,h,_,_,_=>h
 | p :: l,e,d,h,ge,gd,ha=>by
  have hi:=ha p (by simp)
  have h1:=Gvk (σ':=⟨e,[]⟩) h ge gd hi (Gbz false) (fun _=>rfl) (fun _=>rfl) (fun _ _ _=>rfl) (fun _ _ e=>e)
  exact G7n (l:=l) h1 (ge.upd hi (Gbh false)) (gd.upd (h.inb hi) (Gbh false)) (ha.tail_le (b':=e.upd p.1 p.2 (Gbz false)) rfl rfl)
theorem G38 (h : RV (fun x y=>if (σ.b.get x y).t = true then P.s else P.s + 1) σ.b d) (ge : σ.b.Good) (gd : d.Good) (ha : ∀ x y,σ.b.inb x y→(σ.b.get x y).s = true→(σ.b.get x y).t = true) (on : Bool) :
  ∃ d',Stt σ (σ.clean P on) (Gds P d on) (d',true) (fun _ _=>P.s) d'∧(∀ x y,((σ.clean P on).b.get x y).t = false):=by
 have hcz : CZ P.s (fun _ _=>False) σ.b d:=by
  refine ⟨h.w,h.h,fun x y k=>?_,fun x y k=>?_⟩
  ·have:=h.c x y
   rcases k with k | k
   ·exact k.elim
   ·rwa [if_pos k] at this
  ·have:=h.c x y
   simp only [false_or] at k
   rw [if_neg k] at this
   refine ⟨this,fun hi=>?_⟩
   cases hs : (σ.b.get x y).s
   ·rfl
   ·exact absurd (ha x y hi hs) k
 have g2 : (0 : Int) + 4 * ((Gai σ.b.h : Nat) : Int)≤σ.b.h + 3:=by unfold Gai; omega
 obtain ⟨d1,st⟩:=Gmj hp (n:=Gai σ.b.h) hcz ge gd (top:=0) (by omega) g2 (fun _ _ _ h=>h)
 have hrv : RV (fun _ _=>P.s) (σ.stripes P 0 (Gai σ.b.h)).b d1:=by
  refine ⟨st.cz.w,st.cz.h,fun x y=>?_⟩
  by_cases hi : (σ.stripes P 0 (Gai σ.b.h)).b.inb x y
  ·refine st.cz.z x y (.inl (.inr ?_))
   obtain ⟨i1,i2,i3,i4⟩:=hi
   rw [st.eh] at i4
   unfold Gai
   omega
  ·exact st.cz.rv.out hi _
 generalize hτ : σ.stripes P 0 (Gai σ.b.h) = τ at *
 have hall : Gca τ.b (scan σ.b.w σ.b.h):=by have:=Gc3 τ.b; rwa [st.ew,st.eh] at this
 have hr2:=G7n hrv st.ge st.gd hall
 obtain ⟨cb,co⟩:=Gzn (scan σ.b.w σ.b.h) τ
 have hle:=Gvp st.ge hall
 have hld:=Gvp st.gd (l:=scan σ.b.w σ.b.h) (fun q hq=>hrv.inb (hall q hq))
 have hclean : (σ.clean P on).b = τ.b.clr (scan σ.b.w σ.b.h):=by
  unfold ES.clean ES.check
  rw [hτ,← cb]
  split <;> rfl
 have hde : Gds P d on = (Gb9 P d 0 (Gai σ.b.h)).bind fun b=>(Ghe P on).bind fun r=>.ret (b.clr (scan b.w b.h),r):=by
  unfold Gds; rw [hcz.h]
 refine ⟨d1.clr (scan σ.b.w σ.b.h),⟨?_,by rw [hclean]; exact hr2,by rw [hclean]; exact hle.good,hld.good,by rw [hclean]; exact hle.w.trans st.ew,by rw [hclean]; exact hle.h.trans st.eh⟩,fun x y=>?_⟩
 ·rw [hde]
  refine st.pl.bind ?_
  rw [st.cz.w,st.cz.h,st.ew,st.eh]
  refine Gbr.bind (τ:=σ.clean P on) (a:=true) ?_ (Gbr.ret rfl _)
  unfold ES.clean ES.check Ghe
  rw [hτ]
  cases on
  ·exact Gbr.ret (by rw [if_neg (by simp)]; exact co) _
  ·rw [if_pos rfl,if_pos rfl]
   refine Gbr.out ?_ (τ:=(((τ.emit P 18 1).emit P 18 0).emit P 18 1).emit P 18 0) (by simp [ES.emit,co])
   refine Gbr.ask (n:=1) (by omega) ?_
   refine Gbr.ask (n:=0) (by omega) ?_
   refine Gbr.ask (n:=1) (by omega) ?_
   refine Gbr.ask (n:=0) (by omega) ?_
   exact Gbr.ret rfl _
 ·rw [hclean]
  by_cases hi : (τ.b.clr (scan σ.b.w σ.b.h)).inb x y
  ·obtain ⟨c1,c2,c3⟩:=Glg (scan σ.b.w σ.b.h) (σ:=τ) st.ge hall
   rw [← cb]
   obtain ⟨i1,i2,i3,i4⟩:=hi
   exact c1 (x,y) (Gvg i1 (by rw [hle.w,st.ew] at i2; exact i2) i3 (by rw [hle.h,st.eh] at i4; exact i4))
  ·rw [BS.get_out hi]; rfl
end
theorem Qar {b : BS} (hg : b.Good) : (scan b.w b.h).length≤4096:=by
 have hw:=hg.ok.w2
 have hh:=hg.ok.h2
 have:=Gfn b.w b.h (Gai b.h) 0
 have h2 : 4 * b.w * Gai b.h≤4 * 64 * 16:=Nat.mul_le_mul (by omega) (by unfold Gai; omega)
 unfold scan; omega
theorem G69 {m : MD} {b : BS} (hg : b.Good) {k planes o : Nat} : (ES.mk b []).Le (Gb1 m b k planes o) 60000:=by
 have hs:=Qar hg
 have hst : 12 * b.w * Gai b.h≤12 * 64 * 16:=Nat.mul_le_mul (by have:=hg.ok.w2; omega) (by have:=hg.ok.h2; unfold Gai; omega)
 unfold Gb1
 split
 ·exact (G0r (σ:=⟨b,[]⟩) hg (Gc3 b)).mono (by omega)
 ·split
  ·exact (G1a (σ:=⟨b,[]⟩) hg (Gc3 b)).mono (by omega)
  ·have h1:=Ggn (P:=Gc9 m k planes o) (σ:=⟨b,[]⟩) (n:=Gai b.h) hg (top:=0) (by omega) (by show (0 : Int) + 4 * (Gai b.h : Nat)≤b.h + 3; unfold Gai; omega)
   have hall : Gca (ES.stripes (Gc9 m k planes o) ⟨b,[]⟩ 0 (Gai b.h)).b (scan b.w b.h):=by have:=Gc3 (ES.stripes (Gc9 m k planes o) ⟨b,[]⟩ 0 (Gai b.h)).b; rwa [h1.w,h1.h] at this
   have h2:=Gn1 h1.good hall
   have h3:=h1.trans h2
   have h4 : ∀ τ : ES,τ.b.Good→τ.Le (τ.check (Gc9 m k planes o) m.sy) 4:=by
    intro τ hτ
    unfold ES.check
    split
    ·exact ⟨rfl,rfl,hτ,by simp [ES.emit],fun _ _=>rfl⟩
    ·exact ES.Le.refl hτ 4
   exact (h3.trans (h4 _ h3.good)).mono (by show 12 * b.w * Gai b.h + 0 + 4≤60000; omega)
theorem Gxf {P : PP} {σ : ES} (hg : σ.b.Good) {x y : Int} (hi : σ.b.inb x y) : Gw5 (σ.ref1 P x y).b (x,y)∧∀ x' y',Gw5 σ.b (x',y')→Gw5 (σ.ref1 P x y).b (x',y'):=by
 unfold ES.ref1
 split
 ·rename_i h
  refine ⟨fun hs=>?_,fun _ _ h=>h⟩
  rcases h with h | h
  ·simp only at hs; rw [h] at hs; cases hs
  ·exact h
 ·have g1:=hg.upd hi Gcr
  have g : ∀ x' y',(((σ.b.upd x y Gbv).upd x y (Gbz true)).get x' y') = if x' = x∧y' = y then Gbz true ((σ.b.upd x y Gbv).get x y) else (σ.b.upd x y Gbv).get x' y':=fun x' y'=>BS.get_upd g1.ok hi _ x' y'
  have g' : ∀ x' y',((σ.b.upd x y Gbv).get x' y') = if x' = x∧y' = y then Gbv (σ.b.get x y) else σ.b.get x' y':=fun x' y'=>BS.get_upd hg.ok hi _ x' y'
  refine ⟨fun _=>?_,fun x' y' ha=>?_⟩
  ·show (((σ.b.upd x y Gbv).upd x y (Gbz true)).get x y).t = true
   rw [g,if_pos ⟨rfl,rfl⟩]; rfl
  ·show (((σ.b.upd x y Gbv).upd x y (Gbz true)).get x' y').s = true→(((σ.b.upd x y Gbv).upd x y (Gbz true)).get x' y').t = true
   rw [g]
   split
   ·exact fun _=>rfl
   ·rename_i hx
    rw [g',if_neg hx]; exact ha
theorem Gm1 {P : PP} : ∀ {l : List (Int × Int)} {σ : ES},σ.b.Good→Gca σ.b l→(∀ p ∈ l,Gw5 (σ.refs P l).b p)∧∀ p,Gw5 σ.b p→Gw5 (σ.refs P l).b p
 | [],σ,_,_=>⟨fun p hp=>(by cases hp),fun _ h=>h⟩
 | p :: l,σ,hg,ha=>by
  obtain ⟨a1,a2⟩:=Gxf (P:=P) hg (ha p (by simp))
  have hl:=Gsf (P:=P) hg (ha p (by simp))
  obtain ⟨b1,b2⟩:=Gm1 (P:=P) (l:=l) (σ:=σ.ref1 P p.1 p.2) hl.good (Gca.le (fun q hq=>ha q (by simp [hq])) hl)
  refine ⟨fun q hq=>?_,fun q hq=>b2 q (a2 q.1 q.2 hq)⟩
  simp only [List.mem_cons] at hq
  rcases hq with rfl | hq
  ·exact b2 q a1
  ·exact b1 q hq
structure DJ (planes j : Nat) (e d : BS) : Prop where
 rv : RV (Mt (planes - 1 - Gas j) e) e d
 ge : e.Good
 gd : d.Good
 k0 : kindOf j = 0→∀ x y,(e.get x y).t = false
 k2 : kindOf j = 2→∀ x y,e.inb x y→(e.get x y).s = true→(e.get x y).t = true
def Ma (planes j : Nat) (e : BS) (x y : Int) : Nat:=if kindOf j ≠ 2∧(e.get x y).t = false then planes - 1 - Gas j + 1 else planes - 1 - Gas j
theorem Gsz {j : Nat} : (kindOf j ≠ 2→Gas (j + 1) = Gas j)∧(kindOf j = 2→Gas (j + 1) = Gas j + 1):=by
 unfold kindOf Gas
 by_cases h : j = 0
 ·subst h; simp
 ·rw [if_neg h,if_neg (by omega),if_neg h]
  omega
theorem Gzb {m : MD} {planes o j : Nat} {e d : BS} (h : DJ planes j e d) (hpl : planes≤60) (h1 : 1≤planes) (ho : o≤3) :
  ∃ d',(Gn2 m d j planes o).play ((Gb1 m e j planes o).out.map G2h) = some ((d',true),[])∧RV (Ma planes j (Gb1 m e j planes o).b) (Gb1 m e j planes o).b d'∧d'.Good ∧
   (j + 1≤3 * planes - 3→DJ planes (j + 1) (Gb1 m e j planes o).b d'):=by
 have hp:=Gjh (m:=m) (n:=j) hpl h1 ho
 have hs : (Gc9 m j planes o).s = planes - 1 - Gas j:=rfl
 have hle:=G69 (m:=m) h.ge (k:=j) (planes:=planes) (o:=o)
 have hrv:=h.rv
 rw [← hs] at hrv
 obtain ⟨pn1,pn2⟩:=Gsz (j:=j)
 have hpl' : ∀ {σ : ES} {t : Tr (BS × Bool)} {a : BS × Bool},Gbr ⟨e,[]⟩ σ t a→t.play (σ.out.map G2h) = some (a,[]):=by
  intro σ t a hp
  obtain ⟨l,h1,h2⟩:=hp
  simp only [List.nil_append] at h1
  have:=h2 []
  rw [List.append_nil] at this
  rw [h1]; exact this
 rcases Gyj j with ⟨k0,kn⟩ | ⟨k0,kn⟩ | ⟨k0,kn⟩
 ·have hrun : Gb1 m e j planes o = ES.sigs (Gc9 m j planes o) ⟨e,[]⟩ (scan e.w e.h):=by unfold Gb1; rw [if_pos k0]
  have hdr : Gn2 m d j planes o = (Ggx (Gc9 m j planes o) d (scan e.w e.h)).bind fun b=>.ret (b,true):=by unfold Gn2; rw [if_pos k0,h.rv.w,h.rv.h]
  obtain ⟨d',st⟩:=Gyy hp (σ:=⟨e,[]⟩) hrv h.ge h.gd (Gc3 e) (Gx4 _ _) (fun p _=>h.k0 k0 p.1 p.2)
  rw [← hrun] at st
  have hma : RV (Ma planes j (Gb1 m e j planes o).b) (Gb1 m e j planes o).b d':=by
   refine st.rv.congr fun x y _=>?_
   unfold Ma Mt
   rw [hs]
   cases ((Gb1 m e j planes o).b.get x y).t <;> simp [k0]
  refine ⟨d',?_,hma,st.gd,fun hj=>⟨?_,st.ge,st.gd,fun h=>by omega,fun h=>by omega⟩⟩
  ·rw [hdr]; exact hpl' (st.pl.bind (Gbr.ret rfl _))
  ·rw [pn1 (by omega)]; exact st.rv
 ·have hrun : Gb1 m e j planes o = ES.refs (Gc9 m j planes o) ⟨e,[]⟩ (scan e.w e.h):=by unfold Gb1; rw [if_neg (by omega),if_pos k0]
  have hdr : Gn2 m d j planes o = (Ggy (Gc9 m j planes o) d (scan e.w e.h)).bind fun b=>.ret (b,true):=by unfold Gn2; rw [if_neg (by omega),if_pos k0,h.rv.w,h.rv.h]
  obtain ⟨d',st⟩:=Gyi (P:=Gc9 m j planes o) (σ:=⟨e,[]⟩) hrv h.ge h.gd (Gc3 e)
  obtain ⟨ad,_⟩:=Gm1 (P:=Gc9 m j planes o) (σ:=⟨e,[]⟩) h.ge (Gc3 e)
  rw [← hrun] at st ad
  have hma : RV (Ma planes j (Gb1 m e j planes o).b) (Gb1 m e j planes o).b d':=by
   refine st.rv.congr fun x y _=>?_
   unfold Ma Mt
   rw [hs]
   cases ((Gb1 m e j planes o).b.get x y).t <;> simp [k0]
  refine ⟨d',?_,hma,st.gd,fun hj=>⟨?_,st.ge,st.gd,fun h=>by omega,fun _ x y hi=>?_⟩⟩
  ·rw [hdr]; exact hpl' (st.pl.bind (Gbr.ret rfl _))
  ·rw [pn1 (by omega)]; exact st.rv
  ·obtain ⟨i1,i2,i3,i4⟩:=hi
   exact ad (x,y) (Gvg i1 (by rw [st.ew] at i2; exact i2) i3 (by rw [st.eh] at i4; exact i4))
 ·have hrun : Gb1 m e j planes o = ES.clean (Gc9 m j planes o) ⟨e,[]⟩ m.sy:=by unfold Gb1; rw [if_neg (by omega),if_neg (by omega)]
  have hdr : Gn2 m d j planes o = Gds (Gc9 m j planes o) d m.sy:=by unfold Gn2; rw [if_neg (by omega),if_neg (by omega)]
  obtain ⟨d',st,ct⟩:=G38 hp (σ:=⟨e,[]⟩) hrv h.ge h.gd (h.k2 k0) m.sy
  rw [← hrun] at st ct
  have hma : RV (Ma planes j (Gb1 m e j planes o).b) (Gb1 m e j planes o).b d':=by
   refine st.rv.congr fun x y _=>?_
   unfold Ma
   rw [if_neg (by omega),hs]
  refine ⟨d',?_,hma,st.gd,fun hj=>⟨?_,st.ge,st.gd,fun _=>ct,fun h=>by omega⟩⟩
  ·rw [hdr]; exact hpl' st.pl
  ·refine st.rv.congr fun x y _=>?_
   unfold Mt
   rw [if_neg (by simp [ct]),hs,pn2 k0]
   have : Gas (j + 1)≤planes - 1:=Gdg hj h1
   rw [pn2 k0] at this
   omega
def Gd9 (m : MD) (planes o : Nat) : Nat→Nat→BS→BS
 | 0,_,b=>b
 | n + 1,k,b=>Gd9 m planes o n (k + 1) (Gb1 m b k planes o).b
theorem G0g {m : MD} {planes o : Nat} (hpl : planes≤60) (h1 : 1≤planes) (ho : o≤3) : ∀ (c j : Nat) (e d : BS),DJ planes j e d→0 < c→j + c≤3 * planes - 2 →
  ∃ d',Gea m planes o j d ((Gaf m planes o c j e).map (·.map G2h)) = (d',0)∧RV (Ma planes (j + c - 1) (Gd9 m planes o c j e)) (Gd9 m planes o c j e) d'∧d'.Good∧(Gd9 m planes o c j e).w = e.w∧(Gd9 m planes o c j e).h = e.h ∧
   (∀ x y,((Gd9 m planes o c j e).get x y).v = (e.get x y).v)∧(j + c≤3 * planes - 3→DJ planes (j + c) (Gd9 m planes o c j e) d')
 | 0,j,e,d,_,hc,_=>by omega
 | c + 1,j,e,d,h,_,hj=>by
  obtain ⟨d1,p1,rv1,gd1,nx⟩:=Gzb (m:=m) h hpl h1 ho
  have hle:=G69 (m:=m) h.ge (k:=j) (planes:=planes) (o:=o)
  have hv : Gea m planes o j d ((Gaf m planes o (c + 1) j e).map (·.map G2h)) = Gea m planes o (j + 1) d1 ((Gaf m planes o c (j + 1) (Gb1 m e j planes o).b).map (·.map G2h)):=by
   rw [Gaf,List.map_cons,Gea,p1]
   simp
  rw [hv]
  cases c with
  | zero =>
   exact ⟨d1,by simp [Gaf,Gea],rv1,gd1,hle.w,hle.h,hle.v,fun hh=>nx (by omega)⟩
  | succ c =>
   obtain ⟨d',q1,q2,q3,q5,q6,q7,q8⟩:=G0g hpl h1 ho (c + 1) (j + 1) _ d1 (nx (by omega)) (by omega) (by omega)
   refine ⟨d',q1,?_,q3,q5.trans hle.w,q6.trans hle.h,fun x y=>(q7 x y).trans (hle.v x y),fun hh=>?_⟩
   ·rw [show j + (c + 1 + 1) - 1 = j + 1 + (c + 1) - 1 by omega]; exact q2
   ·rw [show j + (c + 1 + 1) = j + 1 + (c + 1) by omega]; exact q8 (by omega)
theorem Qaf {w h : Nat} (x y : Int) : (Gcb w h).get x y = .zero:=by
 unfold BS.get
 split
 ·simp only [Gcb,blank,List.getD_eq_getElem?_getD,List.getElem?_replicate]
  split <;> rfl
 ·rfl
theorem G3l {w h : Nat} {xs : List Int} (hg : (Ga2 w h xs xs.length).Good) (hx : ∀ x y,((Ga2 w h xs xs.length).get x y).s = false∧((Ga2 w h xs xs.length).get x y).t = false∧((Ga2 w h xs xs.length).get x y).r = false)
  {planes : Nat} (h1 : 1≤planes) (hv : ∀ x y,((Ga2 w h xs xs.length).get x y).v.natAbs < 2 ^ planes) : DJ planes 0 (Ga2 w h xs xs.length) (Gcb w h):=by
 refine ⟨⟨rfl,rfl,fun x y=>?_⟩,hg,Gcc hg.ok.w1 hg.ok.w2 hg.ok.h1 hg.ok.h2,fun h=>by simp [kindOf] at h,fun _ x y _ hs=>?_⟩
 ·obtain ⟨a1,a2,a3⟩:=hx x y
  have : Mt (planes - 1 - Gas 0) (Ga2 w h xs xs.length) x y = planes:=by
   unfold Mt; rw [if_neg (by simp [a2])]; simp [Gas]; omega
  rw [this,Qaf]
  exact ⟨a1.symm,a2.symm,a3.symm,(Gga (hv x y)).symm,by rw [a1]; exact ⟨fun k=>(by cases k),fun k=>absurd k (Nat.not_le_of_lt (hv x y))⟩⟩
 ·rw [(hx x y).1] at hs; cases hs
def G77 (l : List (List (Int × Nat))) : List (List (Int × Int)):=l.map (·.map G2h)
theorem mk_eta (b : BS) : (⟨b.w,b.h,b.cs⟩ : BS) = b:=rfl
theorem Gyr {b : BS} (ho : b.Ok) {i : Nat} (hi : i < b.w * b.h) : b.cs[i]? = some (b.get ((i % b.w : Nat) : Int) ((i / b.w : Nat) : Int)):=by
 have hw:=ho.w1
 have h1:=BS.get_in ho (Gii (i:=i) (h:=b.h) (w:=b.w) (by omega) hi b.cs)
 have h2:=Gmq (w:=b.w) (h:=b.h) (i:=i) (by omega) b.cs
 rw [mk_eta] at h2
 rw [h2] at h1
 exact h1
theorem Grh {w h : Nat} {xs : List Int} (hl : xs.length = w * h) : (Ga2 w h xs xs.length).cs = xs.map cellOf:=by
 rw [Ga2,List.take_of_length_le (Nat.le_refl _),hl,Nat.sub_self]; simp [blank]
theorem Gtx {w h : Nat} {xs : List Int} (hl : xs.length = w * h) (x y : Int) : ((Ga2 w h xs xs.length).get x y).s = false∧((Ga2 w h xs xs.length).get x y).t = false∧((Ga2 w h xs xs.length).get x y).r = false ∧
  (((Ga2 w h xs xs.length).get x y).v = 0∨((Ga2 w h xs xs.length).get x y).v ∈ xs):=by
 unfold BS.get
 split
 ·rw [Grh hl]
  simp only [List.getD_eq_getElem?_getD,List.getElem?_map]
  generalize BS.idx _ x y = j
  by_cases hj : j < xs.length
  ·rw [List.getElem?_eq_getElem hj]
   exact ⟨rfl,rfl,rfl,.inr (List.getElem_mem hj)⟩
  ·rw [List.getElem?_eq_none (by omega)]
   exact ⟨rfl,rfl,rfl,.inl rfl⟩
 ·exact ⟨rfl,rfl,rfl,.inl rfl⟩
section
variable {xs : List Int} {w h : Nat} {o : Int} {m : MD}
theorem Gov (w1 : 1≤w) (w2 : w≤64) (h1 : 1≤h) (h2 : h≤64) (hl : xs.length = w * h) (hp : Gab xs≤60) (hp1 : 1≤Gab xs) : DJ (Gab xs) 0 (Ga2 w h xs xs.length) (Gcb w h):=by
 refine G3l (Gfe (Gcc w1 w2 h1 h2) hl _ (Nat.le_refl _) ?_) (fun x y=>?_) hp1 (fun x y=>?_)
 ·rw [List.take_of_length_le (Nat.le_refl _)]; exact Gge.2 hp
 ·obtain ⟨a,b,c,_⟩:=Gtx hl x y
  exact ⟨a,b,c⟩
 ·obtain ⟨_,_,_,hv | hv⟩:=Gtx hl x y
  ·rw [hv]; exact Nat.two_pow_pos _
  ·exact Gf2.1 (Nat.le_refl _) _ hv
theorem Gm6 (w1 : 1≤w) (w2 : w≤64) (h1 : 1≤h) (h2 : h≤64) (hl : xs.length = w * h) (hp : Gab xs≤60) (ho : 0≤o∧o≤3) {n : Nat} (hn : n≤3 * Gab xs - 2) :
  ∃ d : BS,Gdy (G77 (Gaf m (Gab xs) o.toNat n 0 (Ga2 w h xs xs.length))) (Gab xs) w h o m = (0,d.cs.map (·.v),d.cs.map fun c=>leftOf (Gab xs) n c.t)∧d.cs.length = xs.length ∧
   ∀ i (hi : i < xs.length) (hd : i < d.cs.length),0≤leftOf (Gab xs) n d.cs[i].t∧leftOf (Gab xs) n d.cs[i].t≤Gab xs∧d.cs[i].v = Gok (leftOf (Gab xs) n d.cs[i].t).toNat xs[i]:=by
 have hlen : (G77 (Gaf m (Gab xs) o.toNat n 0 (Ga2 w h xs xs.length))).length = n:=by simp [G77,Gbg]
 have herr : Gey n (Gab xs) w h o = 0:=by
  unfold Gey sized
  rw [if_neg (by simp; omega),if_neg (by omega),if_neg (by omega)]
 unfold Gdy
 rw [hlen,herr,if_neg (by simp)]
 simp only [Int.toNat_natCast]
 by_cases hn0 : n = 0
 ·subst hn0
  refine ⟨Gcb w h,by simp [Gaf,G77,Gea,hlen],by simp [Gcb,blank,hl],fun i hi hd=>?_⟩
  have hv : (Gcb w h).cs[i] = .zero:=by simp [Gcb,blank]
  have hlo : ∀ t,leftOf (Gab xs : Int) 0 t = Gab xs:=fun t=>by simp [leftOf]
  rw [hv,hlo,Int.toNat_natCast]
  refine ⟨by omega,by omega,?_⟩
  exact (Gga (Gf2.1 (Nat.le_refl _) _ (List.getElem_mem hi))).symm
 ·have hp1 : 1≤Gab xs:=by omega
  obtain ⟨d',q1,q2,q3,q5,q6,q7,_⟩:=G0g (m:=m) hp hp1 (show o.toNat≤3 by omega) n 0 _ _ (Gov w1 w2 h1 h2 hl hp hp1) (by omega) (by omega)
  have q1' : Gea m (Gab xs) o.toNat 0 (Gcb w h) (G77 (Gaf m (Gab xs) o.toNat n 0 (Ga2 w h xs xs.length))) = (d',0):=q1
  rw [q1']
  have hdw : d'.w = w:=by rw [q2.w,q5]; rfl
  have hdh : d'.h = h:=by rw [q2.h,q6]; rfl
  refine ⟨d',by rw [if_neg (by simp)],by rw [q3.ok.len,hdw,hdh,hl],fun i hi hd=>?_⟩
  have hget:=Gyr q3.ok (i:=i) (by rw [hdw,hdh]; omega)
  rw [List.getElem?_eq_getElem hd] at hget
  injection hget with hget
  rw [hdw] at hget
  generalize hAF : Gd9 m (Gab xs) o.toNat n 0 (Ga2 w h xs xs.length) = e' at *
  have hc:=q2.c ((i % w : Nat) : Int) ((i / w : Nat) : Int)
  rw [← hget] at hc
  have hxi : (e'.get ((i % w : Nat) : Int) ((i / w : Nat) : Int)).v = xs[i]:=by
   rw [q7]
   have hok : (Ga2 w h xs xs.length).Ok:=(Gov w1 w2 h1 h2 hl hp hp1).ge.ok
   have:=Gyr hok (i:=i) (show i < w * h by omega)
   rw [Grh hl,List.getElem?_map,List.getElem?_eq_getElem hi] at this
   have h2:=Option.some.inj this
   show ((Ga2 w h xs xs.length).get ((i % (Ga2 w h xs xs.length).w : Nat) : Int) ((i / (Ga2 w h xs xs.length).w : Nat) : Int)).v = _
   rw [← h2]; rfl
  have hpo : Gas (n - 1)≤Gab xs - 1:=Gdg (by omega) hp1
  have hma : ((Ma (Gab xs) (0 + n - 1) e' ((i % w : Nat) : Int) ((i / w : Nat) : Int) : Nat) : Int) = leftOf (Gab xs) n d'.cs[i].t:=by
   rw [Gie hn0,hc.t,show 0 + n - 1 = n - 1 by omega]
   unfold Ma
   cases (e'.get ((i % w : Nat) : Int) ((i / w : Nat) : Int)).t
   ·by_cases hk : kindOf (n - 1) = 2
    ·rw [if_neg (by simp [hk]),if_neg (by simp [hk])]; omega
    ·rw [if_pos (by simp [hk]),if_pos (by simp [hk])]; omega
   ·rw [if_neg (by simp),if_neg (by simp)]; omega
  have hle : (leftOf (Gab xs) n d'.cs[i].t)≤Gab xs:=by
   rw [Gie hn0]
   split
   ·rename_i hk
    have : kindOf (n - 1) ≠ 2:=by simp at hk; exact hk.1
    have : 1≤Gas (n - 1):=by unfold Gas kindOf at *; split <;> simp_all
    omega
   ·omega
  refine ⟨by omega,hle,?_⟩
  rw [hc.v,hxi,← hma,Int.toNat_natCast]
theorem Gyp {p : Nat} (h : 1≤p) : kindOf (3 * p - 2 - 1) = 2∧Gas (3 * p - 2 - 1) = p - 1:=by
 unfold kindOf Gas
 by_cases hp : p = 1
 ·subst hp; simp
 ·rw [if_neg (by omega),if_neg (by omega)]; omega
theorem Gtb (w1 : 1≤w) (w2 : w≤64) (h1 : 1≤h) (h2 : h≤64) (hl : xs.length = w * h) (hp : Gab xs≤60) (ho : 0≤o∧o≤3) :
  Gdy (G77 (Gaf m (Gab xs) o.toNat (3 * Gab xs - 2) 0 (Ga2 w h xs xs.length))) (Gab xs) w h o m = (0,xs,List.replicate xs.length 0):=by
 obtain ⟨d,e,hd,hv⟩:=Gm6 (m:=m) w1 w2 h1 h2 hl hp ho (n:=3 * Gab xs - 2) (Nat.le_refl _)
 have hlo : ∀ t,leftOf (Gab xs : Int) (3 * Gab xs - 2) t = 0:=fun t=>by
  unfold leftOf
  by_cases h0 : Gab xs = 0
  ·rw [h0]; simp
  ·obtain ⟨k1,k2⟩:=Gyp (p:=Gab xs) (by omega)
   rw [if_neg (by omega),k1,k2]; simp; omega
 rw [e]
 refine Prod.ext rfl (Prod.ext ?_ ?_)
 ·apply List.ext_getElem (by simp [hd])
  intro i i1 i2
  have:=(hv i i2 (by rw [hd]; exact i2)).2.2
  rw [hlo] at this
  rw [List.getElem_map,this]
  unfold Gok Gps
  simp
  split <;> omega
 ·simp only [hlo]
  apply List.ext_getElem (by simp [hd])
  intro i i1 i2
  simp
end
def Go3 (st : S2) (D : List Nat) : Prop :=
 match st.raw with
 | none=>Gb3 st.a D
 | some bs=>∀ i,i < bs.length→Gft D i = bs.getD i 0
def Fol (st : S2) (a : AD) (raw : Option (List Nat × Nat)) (D : List Nat) : Prop :=
 match st.raw with
 | none=>raw = none∧Gin st.a a D
 | some bs=>raw = some (D,bs.length)∧a.p = st.a.p∧st.a = AE.begin st.a.p
theorem G0m {st : S2} (h : Gjb st) {s : Int × Nat} (hs : Gem st.raw s) {D : List Nat} (hD : Dig D) (hl : Go3 (st.put s) D) : Go3 st D:=by
 obtain ⟨a,raw⟩:=st
 obtain ⟨h1,h2,h3⟩:=h
 cases raw with
 | none =>
  obtain ⟨hb,hc⟩:=hs
  have hc:=hc rfl
  simp only at h1 h2
  exact Gtn h1 (c:=s.1.toNat) (bit:=s.2) (by omega) hD hl
 | some bs =>
  intro i hi
  have:=hl i (by simp; omega)
  rw [this,Gky,if_neg (by omega)]
theorem Gla : ∀ (l : List (Int × Nat)) {st : S2},Gjb st→(∀ s ∈ l,Gem st.raw s)→∀ {D : List Nat},Dig D→Go3 (st.puts l) D→Go3 st D
 | [],st,_,_,D,_,hl=>hl
 | s :: l,st,h,hs,D,hD,hl=>by
  obtain ⟨a,_⟩:=G0k h (hs s (List.mem_cons_self ..))
  exact G0m h (hs s (List.mem_cons_self ..)) hD (Gla l a (fun t ht=>Gd8 (hs t (List.mem_cons_of_mem _ ht)) (Gnw st s).1) hD hl)
theorem G4k {st : S2} {D : List Nat} : Go3 st.back D ↔ Go3 st D:=by
 obtain ⟨a,raw⟩:=st
 cases raw <;> exact Iff.rfl
theorem Ghi (m : MD) : ∀ (ls : List (List (Int × Nat))) (n : Nat) (st : S2),Gjb st→(∀ l ∈ ls,∀ s ∈ l,Gem st.raw s)→∀ {D : List Nat},Dig D→Go3 (Gap m n ls st).1 D→Go3 st D
 | [],_,st,_,_,D,_,hl=>hl
 | l :: r,n,st,h,hs,D,hD,hl=>by
  have h0 : Gjb (if m.rst = true∧Gaw m n = false then st.back else st)∧(Go3 (if m.rst = true∧Gaw m n = false then st.back else st) D→Go3 st D)∧(if m.rst = true∧Gaw m n = false then st.back else st).raw = st.raw:=by
   split
   ·exact ⟨(Gj0 h).1,G4k.1,rfl⟩
   ·exact ⟨h,id,rfl⟩
  obtain ⟨a0,b0,c0⟩:=h0
  obtain ⟨a1,_⟩:=Gox l a0 fun s hx=>by rw [c0]; exact hs l (List.mem_cons_self ..) s hx
  refine b0 (Gla l a0 (fun s hx=>by rw [c0]; exact hs l (List.mem_cons_self ..) s hx) hD (Ghi m r (n + 1) _ a1 (fun l' hl' s hx=>Gd8 (hs l' (List.mem_cons_of_mem _ hl') s hx) fun x=>by rw [← c0]; exact (Geq l _).2 x) hD hl))
theorem Gw4 {st : S2} (h : Gjb st) : Go3 st st.bytes:=by
 obtain ⟨a,raw⟩:=st
 cases raw with
 | none =>
  have hl:=h.ok.len
  simp only at hl
  have hd:=h.ok.dig
  simp only at hd
  have e4 : (a.ds.drop (a.ds.length - 4)).length = 4:=by rw [List.length_drop]; omega
  have hlt:=Gle (hd.drop (a.ds.length - 4))
  rw [e4] at hlt
  have e : a.ds = a.ds.take (a.ds.length - 4)++Gdz (val (a.ds.drop (a.ds.length - 4))):=by
   have : Gdz (val (a.ds.drop (a.ds.length - 4))) = a.ds.drop (a.ds.length - 4):=by
    refine Goz (Gjt (by simpa using hlt)) (hd.drop _) (by rw [Ges,e4]) (Gfa _)
   rw [this,List.take_append_drop]
  exact Gs0 h.ok e (by simpa using hlt)
 | some bs=>exact fun i hi=>Gy6 (h.bits bs rfl) i
theorem G51 {st : S2} (h : Gjb st) {s : Int × Nat} (hs : Gem st.raw s) {D : List Nat} (hD : Dig D) {r : RS} (hf : Fol st r.a r.raw D) (hl : Go3 (st.put s) D) :
  ∃ r',r.ask s.1 = (s.2 == 1,r')∧r'.l = r.l++[s]∧Fol (st.put s) r'.a r'.raw D:=by
 obtain ⟨a,raw⟩:=st
 obtain ⟨d,rw',lg⟩:=r
 obtain ⟨h1,h2,h3⟩:=h
 obtain ⟨x,b⟩:=s
 obtain ⟨hb,hc⟩:=hs
 simp only at hb hc
 cases raw with
 | none =>
  obtain ⟨rfl,f⟩:=hf
  have hc:=hc rfl
  simp only at h1 h2 f
  obtain ⟨g1,g2⟩:=Gsi h1 f (c:=x.toNat) (bit:=b) (by omega) hb hD hl
  have e : Gi6 d none x = (b,d.next x.toNat,none):=by unfold Gi6; simp only [hc,and_self,if_true,g1]
  refine ⟨⟨d.next x.toNat,none,lg++[(x,b)]⟩,?_,rfl,rfl,g2⟩
  simp only [RS.ask,e]
 | some bs =>
  obtain ⟨rfl,p1,p2⟩:=hf
  have hbit:=hl bs.length (by simp)
  rw [Gky,if_pos rfl] at hbit
  have e : Gi6 d (some (D,bs.length)) x = (b,d,some (D,bs.length + 1)):=by simp only [Gi6,hbit]
  refine ⟨⟨d,some (D,bs.length + 1),lg++[(x,b)]⟩,?_,rfl,by simp,p1,p2⟩
  simp only [RS.ask,e]
theorem Gwz {α : Type} {D : List Nat} (hD : Dig D) : ∀ (t : Tr α) (l : List (Int × Nat)) (st : S2) (r : RS) (a : α),t.play (l.map G2h) = some (a,[])→Gjb st→(∀ s ∈ l,Gem st.raw s)→Go3 (st.puts l) D→Fol st r.a r.raw D →
  ∃ r',t.run RS.ask r = (a,r')∧r'.l = r.l++l∧Fol (st.puts l) r'.a r'.raw D
 | .ret a,l,st,r,a',hp,_,_,_,hf=>by
  simp only [Tr.play,Option.some.injEq,Prod.mk.injEq,List.map_eq_nil_iff] at hp
  obtain ⟨rfl,rfl⟩:=hp
  exact ⟨r,rfl,by simp,hf⟩
 | .ask c k,[],st,r,a',hp,_,_,_,_=>by simp [Tr.play] at hp
 | .ask c k,s :: l,st,r,a',hp,h,hs,hl,hf=>by
  rw [List.map_cons,Tr.play] at hp
  split at hp
  case isFalse=>cases hp
  rename_i hc
  obtain ⟨hc,hb⟩:=hc
  have hs0:=hs s (List.mem_cons_self ..)
  obtain ⟨h',_⟩:=G0k h hs0
  have hs' : ∀ t ∈ l,Gem (st.put s).raw t:=fun t ht=>Gd8 (hs t (List.mem_cons_of_mem _ ht)) (Gnw st s).1
  obtain ⟨r1,e1,l1,f1⟩:=G51 h hs0 hD hf (Gla l h' hs' hD hl)
  have hbb : ((G2h s).2 == 1) = (s.2 == 1):=by
   have : s.2 < 2:=hs0.1
   simp only [G2h]
   rcases Nat.lt_or_ge s.2 1 with q | q
   ·obtain q : s.2 = 0:=by omega
    rw [q]; rfl
   ·obtain q : s.2 = 1:=by omega
    rw [q]; rfl
  rw [hbb] at hp
  obtain ⟨r2,e2,l2,f2⟩:=Gwz hD (k (s.2 == 1)) l (st.put s) r1 a' hp h' hs' hl f1
  refine ⟨r2,?_,by rw [l2,l1]; simp,f2⟩
  have hc' : c = s.1:=hc.symm
  rw [Tr.run_ask,hc',e1]
  exact e2
theorem G0c {m : MD} {planes o j : Nat} {e d : BS} (h : DJ planes j e d) (hpl : planes≤60) (h1 : 1≤planes) (ho : o≤3) (hj : j≤3 * planes - 3) {st : S2} (hS : Gjb st) {D : List Nat} (hD : Dig D)
  (hraw : st.raw = none→Gaw m j = false) {a : AD} {raw : Option (List Nat × Nat)} (hf : Fol st a raw D)
  (hl : Go3 ((if m.rst = true∧Gaw m j = false then st.back else st).puts (Gb1 m e j planes o).out) D) :
  ∃ d' r,G17 m planes o j a raw d = ((d',true),r)∧r.l = (Gb1 m e j planes o).out∧Fol ((if m.rst = true∧Gaw m j = false then st.back else st).puts (Gb1 m e j planes o).out) r.a r.raw D ∧
   (j + 1≤3 * planes - 3→DJ planes (j + 1) (Gb1 m e j planes o).b d'):=by
 obtain ⟨d',p1,_,_,p4⟩:=Gzb (m:=m) h hpl h1 ho
 have hsy : ∀ s ∈ (Gb1 m e j planes o).out,Gem st.raw s:=by
  intro s hs
  obtain ⟨q1,q2,q3,q4⟩:=Gjo m e j planes o s hs
  refine ⟨by omega,fun hr=>?_⟩
  rw [hraw hr] at q4
  have : ¬ s.1 = -1:=fun x=>by have:=q4.1 x; simp at this
  omega
 have h0 : Gjb (if m.rst = true∧Gaw m j = false then st.back else st)∧(if m.rst = true∧Gaw m j = false then st.back else st).raw = st.raw ∧
   Fol (if m.rst = true∧Gaw m j = false then st.back else st) (if m.rst = true∧Gaw m j = false then a.back else a) raw D:=by
  by_cases hr : m.rst = true∧Gaw m j = false
  ·rw [if_pos hr,if_pos hr]
   refine ⟨(Gj0 hS).1,rfl,?_⟩
   obtain ⟨sa,sraw⟩:=st
   cases sraw with
   | none =>
    obtain ⟨f0,f⟩:=hf
    exact ⟨f0,by simp only [S2.back,AD.back,AE.setBack]; rw [f.p],f.rest,f.value,f.size⟩
   | some bs =>
    obtain ⟨f0,f1,f2⟩:=hf
    simp only at f1 f2
    refine ⟨f0,by simp only [S2.back,AD.back,AE.setBack]; rw [f1],?_⟩
    simp only [S2.back,AE.setBack]
    rw [f2]
    simp [AE.begin]
  ·rw [if_neg hr,if_neg hr]; exact ⟨hS,rfl,hf⟩
 obtain ⟨a0,b0,c0⟩:=h0
 obtain ⟨r,e1,l1,f1⟩:=Gwz hD _ _ _ ⟨if m.rst = true∧Gaw m j = false then a.back else a,raw,[]⟩ _ p1 a0 (fun s hs=>by rw [b0]; exact hsy s hs) hl c0
 refine ⟨d',r,?_,by simpa using l1,f1,p4⟩
 have hre : Gbj j planes o = 0:=by unfold Gbj; rw [if_neg (by omega),if_neg (by omega)]
 unfold G17 Gkc
 rw [if_pos hre]
 simp only [Int.toNat_natCast]
 exact e1
theorem Gg7 {m : MD} {planes o : Nat} (hpl : planes≤60) (h1 : 1≤planes) (ho : o≤3) {D : List Nat} (hD : Dig D) : ∀ (c j : Nat) (e : BS) (st : S2) (rd : Rdg),j + c≤3 * planes - 2→(j≤3 * planes - 3→DJ planes j e rd.b)→Gjb st →
  (st.raw = none→∀ i,i < c→Gaw m (j + i) = false)→Fol st rd.a rd.raw D→Go3 (Gap m j (Gaf m planes o c j e) st).1 D →
  ∃ rd',Gdm m planes o c j rd = rd'∧rd'.ls = rd.ls++Gaf m planes o c j e∧rd'.snd = rd.snd∧Fol (Gap m j (Gaf m planes o c j e) st).1 rd'.a rd'.raw D∧(j + c≤3 * planes - 3→DJ planes (j + c) (Gd9 m planes o c j e) rd'.b)
 | 0,j,e,st,rd,_,hd,_,_,hf,_=>⟨rd,rfl,by simp [Gaf],rfl,hf,fun h=>hd h⟩
 | c + 1,j,e,st,rd,hj,hd,hS,hraw,hf,hl=>by
  have hraw0 : st.raw = none→Gaw m j = false:=fun h=>hraw h 0 (by omega)
  have hS0 : Gjb (if m.rst = true∧Gaw m j = false then st.back else st)∧(if m.rst = true∧Gaw m j = false then st.back else st).raw = st.raw:=by
   split
   ·exact ⟨(Gj0 hS).1,rfl⟩
   ·exact ⟨hS,rfl⟩
  have hsy : ∀ l ∈ Gaf m planes o (c + 1) j e,∀ s ∈ l,Gem st.raw s:=by
   intro l hl s hs
   obtain ⟨i,hi,rfl⟩:=List.getElem_of_mem hl
   obtain ⟨b',hb⟩:=Ger m planes o (c + 1) j e i hi
   rw [hb] at hs
   rw [Gbg] at hi
   obtain ⟨q1,q2,q3,q4⟩:=Gjo m b' (j + i) planes o s hs
   refine ⟨by omega,fun hr=>?_⟩
   rw [hraw hr i hi] at q4
   have : ¬ s.1 = -1:=fun x=>by have:=q4.1 x; simp at this
   omega
  obtain ⟨hS1,_⟩:=Gox (Gb1 m e j planes o).out hS0.1 fun s hs=>by rw [hS0.2]; exact hsy _ (by rw [Gaf]; exact List.mem_cons_self ..) s hs
  have hr1 : ((if m.rst = true∧Gaw m j = false then st.back else st).puts (Gb1 m e j planes o).out).raw = none→st.raw = none:=fun x=>by rw [← hS0.2]; exact (Geq _ _).2 x
  have hr2 : st.raw = none→((if m.rst = true∧Gaw m j = false then st.back else st).puts (Gb1 m e j planes o).out).raw = none:=fun x=>(Geq _ _).1 (by rw [hS0.2]; exact x)
  rw [Gaf,Gap] at hl
  have hl1:=Ghi m _ _ _ hS1 (fun l hl s hs=>Gd8 (hsy l (by rw [Gaf]; exact List.mem_cons_of_mem _ hl) s hs) hr1) hD hl
  obtain ⟨d',r,e1,l1,f1,nx⟩:=G0c (m:=m) (hd (by omega)) hpl h1 ho (by omega) hS hD hraw0 hf hl1
  have hre : Gbj j planes o = 0:=by unfold Gbj; rw [if_neg (by omega),if_neg (by omega)]
  have hsnd : Qb3 planes o j true rd.snd = rd.snd:=by
   unfold Qb3
   rw [if_neg]
   rw [G9v]; simp
  obtain ⟨rd',g1,g2,g3,g4,g5⟩:=Gg7 hpl h1 ho hD c (j + 1) (Gb1 m e j planes o).b _ ⟨r.a,r.raw,d',rd.snd,rd.ls++[r.l]⟩ (by omega) (fun hh=>nx (by omega)) hS1 (fun hh i hi=>by
   have:=hraw (hr1 hh) (i + 1) (by omega)
   rw [show j + 1 + i = j + (i + 1) by omega]; exact this) f1 hl
  refine ⟨rd',?_,?_,g3,?_,fun hh=>?_⟩
  ·rw [Gdm]
   simp only [e1,hsnd]
   exact g1
  ·rw [g2,l1,Gaf]; simp
  ·rw [Gaf,Gap]; exact g4
  ·rw [show j + (c + 1) = j + 1 + c by omega]; exact g5 (by omega)
end Go.Proofs.YtjpjohchdfoeaaaGreat
