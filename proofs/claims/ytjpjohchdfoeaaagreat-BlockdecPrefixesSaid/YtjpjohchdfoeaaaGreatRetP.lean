/-
  The block decoder's check of its arguments.
  The source that gives out symbols.
  Values: the passes.
  Values: what it returns.
  The block decoder: the contracts of Decode and Sound.
  Truncated blocks, plain.
  Truncated blocks are decoded alike: the plain law.
  The examples of the block decoder, plain.
  Whether two lists are the same (law 18's own).
  The examples of the chapter.
  Law 18's examples, followed.
  Law 18's examples, followed.
  What the block encoder answers, plain: the ends of the passes ascend, the bytes are bytes.
  The shape of the passes: the plain law.
  Each coefficient's bit is coded once in a plane: the plain law.
  Without the lowest planes: the plain law.
  The decoder's passes undo the encoder's: the plain law.
  The passes of a block, encoded and decoded: the plain laws.
  Values, from the symbols of a block: the plain laws.
  A segment is read back: the source follows the sink. Plain.
  The segments are read back, the last one perhaps cut short. Plain.
  A block is decoded to what was encoded: the plain law.
  The first passes of a block that was encoded: the plain law.
  BlockdecPrefixes: the walk.
-/
import Derived.Test.YtjpjohchdfoeaaaGreatTrn
import Derived.Test.YtjpjohchdfoeaaaGreatRs
import Derived.Test.YtjpjohchdfoeaaaGreatEnc3
namespace Go.Proofs.YtjpjohchdfoeaaaGreat
open Go Go.Sim
set_option linter.unusedSimpArgs false
set_option linter.unusedVariables false
set_option maxRecDepth 10000
def checkP (pl : Int) (ps ds : List Int) (n w hh o : Int) : Int :=
 if validP pl ps ds ≠ 0 then validP pl ps ds
 else if n < 0 ∨ (ps.length : Int) < n ∨ w < 1 ∨ 64 < w ∨ hh < 1 ∨ 64 < hh then 2
 else if o < 0 ∨ 3 < o then 3 else 0
section
variable {h : Heap} {pv dv : Value} {pl : Int} {ps ds : List Int} {m : MD}
set_option maxHeartbeats 1000000 in
theorem check_c (hp : Rk .i64 h pv ps) (hd : Rk .u8 h dv ds) (hl : ps.length < 1000000) (hdl : ds.length < 1000000000) (n w hh o : Int) :
  Gives 26 [.agg #[.int .i64 pl,pv,dv],.int .i64 n,.int .i64 w,.int .i64 hh,.int .i64 o,m.val] h (.int .i64 (checkP pl ps ds n w hh o)) := by
 refine Gives.mk fun R0 hR => ?_
 generalize hH : h ++ [some (⟨false,[.int .i64 pl,pv,dv]⟩ : Blk),some ⟨false,[.bool m.byp,.bool m.res,.bool m.rst,.bool m.cz,.bool m.sy]⟩] = H
 have lH : H.length = h.length + 2 := by rw [← hH]; simp
 have b0 : blk? H h.length = some ⟨false,[.int .i64 pl,pv,dv]⟩ := by rw [← hH,app_len]; rfl
 have b1 : blk? H (h.length + 1) = some ⟨false,[.bool m.byp,.bool m.res,.bool m.rst,.bool m.cz,.bool m.sy]⟩ := by rw [← hH,app_add]; rfl
 have hpH : Rk .i64 H pv ps := by rw [← hH]; exact hp.push _
 have hdH : Rk .u8 H dv ds := by rw [← hH]; exact hd.push _
 obtain ⟨H1,e1,k1,l1⟩ := valid_c (m := m) (pl := pl) hpH hdH hl hdl
 have b01 : blk? H1 h.length = some ⟨false,[.int .i64 pl,pv,dv]⟩ := by rw [k1 _ (by omega)]; exact b0
 have hR' := hR H1 (fun id hid => by rw [k1 id (by omega),← hH]; exact app_lt hid) (by omega)
 clear hR
 obtain ⟨pa,pc,hpv⟩ := hp.sl.shape
 simp only [MD.val] at e1
 unfold checkP at hR'
 rw [enter26,B26]
 by_cases v0 : validP pl ps ds = 0
 case neg =>
  have v0' : (validP pl ps ds != 0) = true := by simpa using v0
  rw [if_pos v0] at hR'
  simp [k_guard,k_guardU,MD.val,hH,b0,b1,e1,v0',fin26]
  exact hR'
 have v0' : (validP pl ps ds != 0) = false := by simpa using v0
 rw [if_neg (by simp [v0])] at hR'
 rw [hpv] at hH b0 b01 e1
 rw [hpv]
 by_cases c1 : n < 0
 ·rw [if_pos (.inl c1)] at hR'
  simp [k_guard,k_guardU,MD.val,hH,b0,b1,e1,v0',c1,fin26]
  exact hR'
 by_cases c2 : (ps.length : Int) < n
 ·rw [if_pos (.inr (.inl c2))] at hR'
  simp [k_guard,k_guardU,MD.val,hH,b0,b1,e1,v0',b01,c1,c2,fin26]
  exact hR'
 by_cases c3 : w < 1
 ·rw [if_pos (.inr (.inr (.inl c3)))] at hR'
  simp [k_guard,k_guardU,MD.val,hH,b0,b1,e1,v0',b01,c1,c2,c3,fin26]
  exact hR'
 by_cases c4 : 64 < w
 ·rw [if_pos (.inr (.inr (.inr (.inl c4))))] at hR'
  simp [k_guard,k_guardU,MD.val,hH,b0,b1,e1,v0',b01,c1,c2,c3,c4,fin26]
  exact hR'
 by_cases c5 : hh < 1
 ·rw [if_pos (.inr (.inr (.inr (.inr (.inl c5)))))] at hR'
  simp [k_guard,k_guardU,MD.val,hH,b0,b1,e1,v0',b01,c1,c2,c3,c4,c5,fin26]
  exact hR'
 by_cases c6 : 64 < hh
 ·rw [if_pos (.inr (.inr (.inr (.inr (.inr c6)))))] at hR'
  simp [k_guard,k_guardU,MD.val,hH,b0,b1,e1,v0',b01,c1,c2,c3,c4,c5,c6,fin26]
  exact hR'
 rw [if_neg (by omega)] at hR'
 by_cases c7 : o < 0
 ·rw [if_pos (.inl c7)] at hR'
  simp [k_guard,k_guardU,MD.val,hH,b0,b1,e1,v0',b01,c1,c2,c3,c4,c5,c6,c7,fin26]
  exact hR'
 by_cases c8 : 3 < o
 ·rw [if_pos (.inr c8)] at hR'
  simp [k_guard,k_guardU,MD.val,hH,b0,b1,e1,v0',b01,c1,c2,c3,c4,c5,c6,c7,c8,fin26]
  exact hR'
 rw [if_neg (by omega)] at hR'
 simp [k_guard,k_guardU,MD.val,hH,b0,b1,e1,v0',b01,c1,c2,c3,c4,c5,c6,c7,c8,fin26]
 exact hR'
end
theorem vgo_take' : ∀ (ps : List Int) (l r : Int),vgo ps l = some r → ∀ a,a ≤ ps.length → vgo (ps.take a) l = some (if a = 0 then l else ps.getD (a - 1) 0)
 | ps,l,r,hv,0,_ => by simp [vgo]
 | [],l,r,hv,a + 1,h => by simp at h
 | x :: xs,l,r,hv,a + 1,h => by
  unfold vgo at hv
  split at hv
  ·cases hv
  ·rename_i hx
   have := vgo_take' xs x r hv a (by simpa using h)
   rw [List.take_succ_cons,vgo,if_neg hx,this]
   cases a with
   | zero => simp
   | succ a => simp
theorem valid_zE {pl : Int} {ps ds : List Int} (hv : validP pl ps ds = 0) : (∀ x ∈ ps,0 ≤ x) ∧ ∀ i j,i ≤ j → j ≤ ps.length → zE ps i ≤ zE ps j ∧ zE ps j ≤ ds.length := by
 obtain ⟨_,_,_,hg,_⟩ := valid_ends hv
 refine ⟨fun x hx => ?_,fun i j hij hj => ?_⟩
 ·obtain ⟨k,hk,rfl⟩ := List.getElem_of_mem hx
  have := vgo_get ps 0 _ hg k hk
  simpa [hk] using this.1
 ·unfold zE
  by_cases j0 : j = 0
  ·have : i = 0 := by omega
   subst this j0; simp
  ·have hb := vgo_get ps 0 _ hg (j - 1) (by omega)
   rw [if_neg j0]
   refine ⟨?_,by omega⟩
   by_cases i0 : i = 0
   ·rw [if_pos i0]; omega
   ·rw [if_neg i0]
    have h1 := vgo_take' ps 0 _ hg j hj
    rw [if_neg j0] at h1
    have h2 := vgo_get _ 0 _ h1 (i - 1) (by rw [List.length_take]; omega)
    have e : (ps.take j).getD (i - 1) 0 = ps.getD (i - 1) 0 := by rw [List.getD_eq_getElem?_getD,List.getD_eq_getElem?_getD,List.getElem?_take,if_pos (by omega)]
    rw [e] at h2
    omega
theorem Sl.tail {h : Heap} {s : Value} {l : List (Int × Int)} {p : Int × Int} (hs : Sl h 2 s (l.length + 1) (encP (p :: l))) :
  ∃ id off b,s = .slice (some ⟨id,off,none⟩) (l.length + 1) 2 ∧ blk? h id = some b ∧ b.cells[off]? = some (.int .i64 p.1) ∧ b.cells[off + 1]? = some (.int .i64 p.2) ∧ Sl h 2 (.slice (some ⟨id,off + 2,none⟩) l.length 2) l.length (encP l) := by
 obtain ⟨id,off,b,e,hb,hc⟩ := hs.get (i := 0) (by omega)
 have c0 := hc 0 (by omega)
 have c1 := hc 1 (by omega)
 simp [encP] at c0 c1
 refine ⟨id,off,b,e,hb,c0,c1,by rw [encP_len],.inr ⟨id,off + 2,rfl,?_⟩⟩
 obtain ⟨hl,hs⟩ := hs
 rcases hs with ⟨rfl,h0⟩ | ⟨id',off',e',h0 | ⟨b',hb',hle,hct⟩⟩
 ·cases e
 ·omega
 ·rw [e] at e'
  injection e' with e1 e2 e3
  injection e1 with e1
  injection e1 with e1 e4
  subst e1 e4
  rw [hb] at hb'
  injection hb' with hb'
  subst hb'
  refine .inr ⟨b,hb,by omega,?_⟩
  have h2 := congrArg (List.drop 2) hct
  rw [List.drop_take,List.drop_drop] at h2
  simp [encP] at h2
  rw [← h2]
  congr 1
  omega
structure RelV (c sb : Nat) (h : Heap) (sv : Value) (s : List (Int × Int) × Bool) : Prop where
 blk : blk? h sb = some ⟨false,[sv,.bool s.2]⟩
 sl : Sl h 2 sv s.1.length (encP s.1)
 far : ∀ id,sid sv = some id → id < h.length ∧ id ≠ c ∧ id ≠ sb
 ne : sb ≠ c
theorem next_d {c sb : Nat} {h : Heap} {sv : Value} {s : List (Int × Int) × Bool} (hr : RelV c sb h sv s) (x : Int) :
  ∃ sv' h' v,(∀ R,Ret tab 63 [ptr sb,.int .i64 x] h R = R (.int .i64 v) h') ∧ (v != 0) = (askV s x).1 ∧ RelV c sb h' sv' (askV s x).2 ∧ Stu h h' (fun id => id = sb) (fun id => id = sb) := by
 obtain ⟨l,bad⟩ := s
 obtain ⟨hb,hsl,hf,hne⟩ := hr
 simp only at hb hsl
 have hls := blk?_lt hb
 have hset : ∀ sv' bad',Stu h (h.set sb (some ⟨false,[sv',.bool bad']⟩)) (fun id => id = sb) (fun id => id = sb) := fun sv' bad' => ⟨by simp,fun id h1 h2 => blk?_set_ne (fun e => h2 e.symm),fun id h => .inl h⟩
 have hE : ∀ x : Blk,blk? (h.set sb (some x)) sb = some x := fun x => blk?_set_eq hls
 have hbad : askV (l,bad) x = (false,(l,true)) → RelV c sb (h.set sb (some ⟨false,[sv,.bool true]⟩)) sv (askV (l,bad) x).2 := by
  intro e
  rw [e]
  refine ⟨hE _,hsl.of_sid fun id b hid hb => ?_,fun id hid => by simpa using hf id hid,hne⟩
  rw [blk?_set_ne (fun e => (hf id hid).2.2 e.symm)]; exact hb
 cases l with
 | nil =>
  obtain ⟨a,cc,hsh⟩ := hsl.shape
  have e : askV ([],bad) x = (false,([],true)) := by cases bad <;> rfl
  refine ⟨sv,h.set sb (some ⟨false,[sv,.bool true]⟩),0,fun R => ?_,by rw [e]; rfl,hbad e,hset _ _⟩
  rw [enter63,B63]
  subst hsh
  simp [k_guard,k_guardU,hb,hE,fin63]
 | cons p l =>
  obtain ⟨id,off,b,rfl,hbk,c0,c1,htl⟩ := Sl.tail hsl
  have hfar := hf id rfl
  obtain ⟨p1,p2⟩ := p
  simp only at c0 c1
  by_cases h1 : p1 = x
  ·subst h1
   by_cases h2 : p2 = 0 ∨ p2 = 1
   ·-- a bit
    cases bad
    ·have e : askV ((p1,p2) :: l,false) p1 = (p2 == 1,(l,false)) := by simp only [askV]; rw [if_pos ⟨trivial,h2⟩]
     refine ⟨.slice (some ⟨id,off + 2,none⟩) l.length 2,h.set sb (some ⟨false,[.slice (some ⟨id,off + 2,none⟩) l.length 2,.bool false]⟩),p2,fun R => ?_,by rw [e]; rcases h2 with rfl | rfl <;> rfl,?_,hset _ _⟩
     ·rw [enter63,B63]
      have hnl : ((l.length : Int) + 1 == 0) = false := by simp; omega
      have hpos : (0 : Int) < (l.length : Int) + 1 := by omega
      have hsv : sliceV 2 (.slice (some ⟨id,off,none⟩) (l.length + 1) 2) (some (.int .i64 1)) none = some (.slice (some ⟨id,off + 2,none⟩) l.length 2) := by
       have hle : ((1 : Int) ≤ (l.length : Int) + 1) := by omega
       simp [sliceV,bndO,bnd,hle]
      rcases h2 with rfl | rfl <;> simp [k_guard,k_guardU,hb,hbk,c0,c1,hnl,hpos,hsv,fin63]
     ·rw [e]
      refine ⟨hE _,htl.of_sid fun id' b' hid hb' => ?_,fun id' hid => ?_,hne⟩
      ·simp [sid] at hid; subst hid
       rw [blk?_set_ne (fun e => hfar.2.2 e.symm)]; exact hb'
      ·simp [sid] at hid; subst hid
       simpa using hfar
    ·have e : askV ((p1,p2) :: l,true) p1 = (false,((p1,p2) :: l,true)) := rfl
     refine ⟨_,h,0,fun R => ?_,by rw [e]; rfl,by rw [e]; exact ⟨hb,hsl,hf,hne⟩,⟨Nat.le_refl _,fun _ _ _ => rfl,fun id h => .inl h⟩⟩
     rw [enter63,B63]
     have hnl : ((l.length : Int) + 1 == 0) = false := by simp; omega
     have hpos : (0 : Int) < (l.length : Int) + 1 := by omega
     rcases h2 with rfl | rfl <;> simp [k_guard,k_guardU,hb,hbk,c0,c1,hnl,hpos,fin63]
   ·have e : askV ((p1,p2) :: l,bad) p1 = (false,((p1,p2) :: l,true)) := by
     cases bad
     ·simp only [askV]; rw [if_neg (fun e => h2 e.2)]
     ·rfl
    refine ⟨_,h.set sb (some ⟨false,[.slice (some ⟨id,off,none⟩) (l.length + 1) 2,.bool true]⟩),0,fun R => ?_,by rw [e]; rfl,hbad e,hset _ _⟩
    rw [enter63,B63]
    have hnl : ((l.length : Int) + 1 == 0) = false := by simp; omega
    have hpos : (0 : Int) < (l.length : Int) + 1 := by omega
    have g0 : (p2 != 0) = true := by simp; omega
    have g1 : (p2 != 1) = true := by simp; omega
    simp [k_guard,k_guardU,hb,hbk,hE,c0,c1,g0,g1,hnl,hpos,fin63]
  ·have e : askV ((p1,p2) :: l,bad) x = (false,((p1,p2) :: l,true)) := by
    cases bad
    ·simp only [askV]; rw [if_neg (fun e => h1 e.1)]
    ·rfl
   refine ⟨_,h.set sb (some ⟨false,[.slice (some ⟨id,off,none⟩) (l.length + 1) 2,.bool true]⟩),0,fun R => ?_,by rw [e]; rfl,hbad e,hset _ _⟩
   rw [enter63,B63]
   have hnl : ((l.length : Int) + 1 == 0) = false := by simp; omega
   have hpos : (0 : Int) < (l.length : Int) + 1 := by omega
   have g1 : (p1 != x) = true := by simp; exact h1
   simp [k_guard,k_guardU,hb,hbk,hE,c0,c1,g1,hnl,hpos,fin63]
def srcV (c sb : Nat) : Src c (callF (.func (.func 63) #[ptr sb] #[])) where
 S := List (Int × Int) × Bool
 T := Value
 ask := askV
 rel := RelV c sb
 own := fun _ id => id = sb
 size := fun _ => 0
 lt := fun h id e => by rw [e]; exact blk?_lt h.blk
 stable := fun {h h' t s} hr hl hk => ⟨by rw [hk _ (blk?_lt hr.blk) hr.ne]; exact hr.blk,hr.sl.of_sid fun id b hid hb => (by obtain ⟨f1,f2,f3⟩ := hr.far id hid; rw [hk id f1 f2]; exact hb),fun id hid => (by obtain ⟨f1,f2,f3⟩ := hr.far id hid; exact ⟨by omega,f2,f3⟩),hr.ne⟩
 size_ask := fun _ _ => by simp
 step := fun {h t s} hr _ x => by
  obtain ⟨sv',h',v,e,hv,hr',st⟩ := next_d hr x
  refine ⟨sv',h',v,fun R => ?_,hv,hr',st⟩
  unfold callF
  rw [callK_func]
  exact e R
 c_own := fun hr e => hr.ne e.symm
structure PsI (h : Heap) (s : Value) (vs : List Value) (ls : List (List (Int × Int))) : Prop where
 sl : Sl h 1 s vs.length vs
 len : vs.length = ls.length
 each : ∀ i (h1 : i < vs.length) (h2 : i < ls.length),Sl h 2 vs[i] ls[i].length (encP ls[i])
 lt : ∀ i (h1 : i < vs.length) id,sid vs[i] = some id → id < h.length
theorem PsI.keep {h h' : Heap} {s : Value} {vs : List Value} {ls : List (List (Int × Int))} (hp : PsI h s vs ls) (hl : h.length ≤ h'.length) (hk : ∀ id,id < h.length → blk? h' id = blk? h id) : PsI h' s vs ls :=
 ⟨hp.sl.of_sid fun id b _ hb => by rw [hk id (blk?_lt hb)]; exact hb,hp.len,fun i h1 h2 => (hp.each i h1 h2).of_sid fun id b _ hb => by rw [hk id (blk?_lt hb)]; exact hb,fun i h1 id hid => Nat.lt_of_lt_of_le (hp.lt i h1 id hid) hl⟩
structure VLv (h0 H : Heap) (M p c : Nat) (m : MD) (w hh : Nat) (b : BS) : Prop where
 low : ∀ id,id < h0.length → blk? H id = blk? h0 id
 len : h0.length ≤ H.length
 box : blk? H M = some ⟨false,[.bool m.byp,.bool m.res,.bool m.rst,.bool m.cz,.bool m.sy]⟩
 cb : CB H false p c b
 good : b.Good
 d : h0.length ≤ c ∧ M ≠ c
 bw : b.w = w
 bh : b.h = hh
 dp : h0.length ≤ p
set_option maxRecDepth 10000 in
set_option maxHeartbeats 1000000 in
theorem vals_loop {h0 : Heap} {M p c : Nat} {m : MD} {s v5 : Value} {vs : List Value} {ls : List (List (Int × Int))} {P O w hh : Nat} (hp : PsI h0 s vs ls) (hP : P ≤ 60) (hP1 : 0 < ls.length → 1 ≤ P) (hO : O ≤ 3) (hn : ls.length ≤ 3 * P - 2) {k : List RItem} {R : Value → Heap → Prop} :
  ∀ (n i : Nat) (H : Heap) (b : BS) (K6 K7 K8 K9 Ka Kc Kd Ke Kg Kh Ki Kj Kk Kl Km Kn Ko Kp Kq Kr Ks Kt Ku Kv Kw Kx Ky Kz J0 J1 J2 J3 J4 J5 J6 J7 J8 J9 Ja Jb Jc Jd Je Jf Jg Jh Ji Jm Jn Jo Jp Jq Jr Js Jt Ju Jv Jw Jx Jy Jz Y0 Y1 Y2 Y3 Y4 Y5 Y6 Y7 Y8 Y9 Ya Yb Yc Yd Ye Yf Yg Yh Yi Yj Yk Yl Ym Yn Yo Yp Yq Yr Ys Yt Yu Yv Yw Yx Yy Yz Z0 Z1 Z2 Z3 Z4 Z5 Z6 Z7 Z8 Z9 Za Zb Zc Zd Ze Zf Zg Zh Zi Zj Zk Zl Zm Zn Zo Zp Zq Zr Zs Zt Zu Zv Zw Zx Zy Zz K0q : Value),n = ls.length - i → i ≤ ls.length → VLv h0 H M p c m w hh b →
   (∀ (H' : Heap) (b' : BS) (K6 K7 K8 K9 Ka Kc Kd Ke Kg Kh Ki Kj Kk Kl Km Kn Ko Kp Kq Kr Ks Kt Ku Kv Kw Kx Ky Kz J0 J1 J2 J3 J4 J5 J6 J7 J8 J9 Ja Jb Jc Jd Je Jf Jg Jh Ji Jj Jk Jl Jm Jn Jo Jp Jq Jr Js Jt Ju Jv Jw Jx Jy Jz Y0 Y1 Y2 Y3 Y4 Y5 Y6 Y7 Y8 Y9 Ya Yb Yc Yd Ye Yf Yg Yh Yi Yj Yk Yl Ym Yn Yo Yp Yq Yr Ys Yt Yu Yv Yw Yx Yy Yz Z0 Z1 Z2 Z3 Z4 Z5 Z6 Z7 Z8 Z9 Za Zb Zc Zd Ze Zf Zg Zh Zi Zj Zk Zl Zm Zn Zo Zp Zq Zr Zs Zt Zu Zv Zw Zx Zy Zz K0q : Value),vLoop m P O i b (ls.drop i) = (b',0) → VLv h0 H' M p c m w hh b' → Ok tab R28 k #[s,.int .i64 P,.int .i64 w,.int .i64 hh,.int .i64 O,v5,K6,K7,K8,K9,Ka,ptr M,Kc,Kd,Ke,ptr p,Kg,Kh,Ki,Kj,Kk,Kl,Km,Kn,Ko,Kp,Kq,Kr,Ks,Kt,Ku,Kv,Kw,Kx,Ky,Kz,J0,J1,J2,J3,J4,J5,J6,J7,J8,J9,Ja,Jb,Jc,Jd,Je,Jf,Jg,Jh,Ji,Jj,Jk,Jl,Jm,Jn,Jo,Jp,Jq,Jr,Js,Jt,Ju,Jv,Jw,Jx,Jy,Jz,Y0,Y1,Y2,Y3,Y4,Y5,Y6,Y7,Y8,Y9,Ya,Yb,Yc,Yd,Ye,Yf,Yg,Yh,Yi,Yj,Yk,Yl,Ym,Yn,Yo,Yp,Yq,Yr,Ys,Yt,Yu,Yv,Yw,Yx,Yy,Yz,Z0,Z1,Z2,Z3,Z4,Z5,Z6,Z7,Z8,Z9,Za,Zb,Zc,Zd,Ze,Zf,Zg,Zh,Zi,Zj,Zk,Zl,Zm,Zn,Zo,Zp,Zq,Zr,Zs,Zt,Zu,Zv,Zw,Zx,Zy,Zz,K0q] H' R) →
   (∀ (H' : Heap) (e : Int),(vLoop m P O i b (ls.drop i)).2 = e → e ≠ 0 → (∀ id,id < h0.length → blk? H' id = blk? h0 id) → h0.length ≤ H'.length → R (.tuple #[.slice none 0 0,.slice none 0 0,.int .i64 e]) H') →
   Ok tab R28 (.inLoop L28_0 :: .inBlock 0 :: k) #[s,.int .i64 P,.int .i64 w,.int .i64 hh,.int .i64 O,v5,K6,K7,K8,K9,Ka,ptr M,Kc,Kd,Ke,ptr p,Kg,Kh,Ki,Kj,Kk,Kl,Km,Kn,Ko,Kp,Kq,Kr,Ks,Kt,Ku,Kv,Kw,Kx,Ky,Kz,J0,J1,J2,J3,J4,J5,J6,J7,J8,J9,Ja,Jb,Jc,Jd,Je,Jf,Jg,Jh,Ji,s,.int .i64 ls.length,.int .i64 i,Jm,Jn,Jo,Jp,Jq,Jr,Js,Jt,Ju,Jv,Jw,Jx,Jy,Jz,Y0,Y1,Y2,Y3,Y4,Y5,Y6,Y7,Y8,Y9,Ya,Yb,Yc,Yd,Ye,Yf,Yg,Yh,Yi,Yj,Yk,Yl,Ym,Yn,Yo,Yp,Yq,Yr,Ys,Yt,Yu,Yv,Yw,Yx,Yy,Yz,Z0,Z1,Z2,Z3,Z4,Z5,Z6,Z7,Z8,Z9,Za,Zb,Zc,Zd,Ze,Zf,Zg,Zh,Zi,Zj,Zk,Zl,Zm,Zn,Zo,Zp,Zq,Zr,Zs,Zt,Zu,Zv,Zw,Zx,Zy,Zz,K0q] H R := by
 intro n
 induction n with
 | zero =>
  intro i H b K6 K7 K8 K9 Ka Kc Kd Ke Kg Kh Ki Kj Kk Kl Km Kn Ko Kp Kq Kr Ks Kt Ku Kv Kw Kx Ky Kz J0 J1 J2 J3 J4 J5 J6 J7 J8 J9 Ja Jb Jc Jd Je Jf Jg Jh Ji Jm Jn Jo Jp Jq Jr Js Jt Ju Jv Jw Jx Jy Jz Y0 Y1 Y2 Y3 Y4 Y5 Y6 Y7 Y8 Y9 Ya Yb Yc Yd Ye Yf Yg Yh Yi Yj Yk Yl Ym Yn Yo Yp Yq Yr Ys Yt Yu Yv Yw Yx Yy Yz Z0 Z1 Z2 Z3 Z4 Z5 Z6 Z7 Z8 Z9 Za Zb Zc Zd Ze Zf Zg Zh Zi Zj Zk Zl Zm Zn Zo Zp Zq Zr Zs Zt Zu Zv Zw Zx Zy Zz K0q hm hi vl hk hx
  have hlt : ¬ ((i : Int) < ls.length) := by omega
  rw [List.drop_of_length_le (by omega)] at hk
  rw [ok_round,l28_0,L28_0a,L28_0b]
  simp [hlt]
  exact hk H b _ _ _ _ _ _ _ _ _ _ _ _ _ _ _ _ _ _ _ _ _ _ _ _ _ _ _ _ _ _ _ _ _ _ _ _ _ _ _ _ _ _ _ _ _ _ _ _ _ _ _ _ _ _ _ _ _ _ _ _ _ _ _ _ _ _ _ _ _ _ _ _ _ _ _ _ _ _ _ _ _ _ _ _ _ _ _ _ _ _ _ _ _ _ _ _ _ _ _ _ _ _ _ _ _ _ _ _ _ _ _ _ _ _ _ _ _ _ _ _ _ _ _ _ _ _ _ _ _ _ _ _ _ _ _ _ _ rfl vl
 | succ n ih =>
  intro i H b K6 K7 K8 K9 Ka Kc Kd Ke Kg Kh Ki Kj Kk Kl Km Kn Ko Kp Kq Kr Ks Kt Ku Kv Kw Kx Ky Kz J0 J1 J2 J3 J4 J5 J6 J7 J8 J9 Ja Jb Jc Jd Je Jf Jg Jh Ji Jm Jn Jo Jp Jq Jr Js Jt Ju Jv Jw Jx Jy Jz Y0 Y1 Y2 Y3 Y4 Y5 Y6 Y7 Y8 Y9 Ya Yb Yc Yd Ye Yf Yg Yh Yi Yj Yk Yl Ym Yn Yo Yp Yq Yr Ys Yt Yu Yv Yw Yx Yy Yz Z0 Z1 Z2 Z3 Z4 Z5 Z6 Z7 Z8 Z9 Za Zb Zc Zd Ze Zf Zg Zh Zi Zj Zk Zl Zm Zn Zo Zp Zq Zr Zs Zt Zu Zv Zw Zx Zy Zz K0q hm hi vl hk hx
  have hil : i < ls.length := by omega
  have hivs : i < vs.length := by rw [hp.len]; exact hil
  have hlt : ((i : Int) < ls.length) := by omega
  have hw : IntKind.i64.wrap ((i : Int) + 1) = (i : Int) + 1 := wrapN (n := i + 1) (by omega)
  have hpH := hp.keep vl.len vl.low
  obtain ⟨id,off,bk,hs,hbk,hc⟩ := hpH.sl.get hivs
  have hc0 := hc 0 (by omega)
  rw [Nat.mul_one,Nat.add_zero,Nat.add_zero,List.getElem?_eq_getElem hivs] at hc0
  have hsl := hpH.each i hivs hil
  have hfar := hp.lt i hivs
  obtain ⟨d1,d2⟩ := vl.d
  rw [List.drop_eq_getElem_cons hil,vLoop] at hk hx
  generalize vs[i] = sv at *
  generalize ls[i] = l at *
  obtain ⟨sa,scc,hsh⟩ := hsl.shape
  have hH1 : ∀ id,id < H.length → blk? (H ++ [some ⟨false,[sv,.bool false]⟩]) id = blk? H id := fun id hid => blk?_push_lt hid
  have hcb1 : CB (H ++ [some ⟨false,[sv,.bool false]⟩]) false p c b := ⟨by rw [hH1 _ (blk?_lt vl.cb.blkp)]; exact vl.cb.blkp,by rw [hH1 _ (blk?_lt vl.cb.blkc)]; exact vl.cb.blkc,vl.cb.ok⟩
  have hlc := blk?_lt vl.cb.blkc
  have hlp := blk?_lt vl.cb.blkp
  have hlM := blk?_lt vl.box
  have hlen0 := vl.len
  have hrel : RelV c H.length (H ++ [some ⟨false,[sv,.bool false]⟩]) sv (l,false) := ⟨blk?_push_eq,hsl.push _,fun id hid => by have := hfar id hid; simp; omega,by omega⟩
  obtain ⟨t',H2,e,dr⟩ := run_d (A := srcV c H.length) (t := sv) (s := (l,false)) hcb1 vl.good.rng hrel (by show ¬ p = H.length; omega) (by simp) (by show 0 + 100000 < 1000000; omega) i P O m
  have herr : runErr (i : Int) (P : Int) (O : Int) = 0 := by unfold runErr; rw [if_neg (by omega),if_neg (by omega)]
  have hout : dOut (srcV c H.length).ask m b (i : Int) (P : Int) (O : Int) (l,false) = (dRun m b i P O).run askV (l,false) := by
   unfold dOut; rw [if_pos herr]; rfl
  rw [hout] at e dr
  have hde : ∀ r,dErr (i : Int) (P : Int) (O : Int) r = cond r 0 16 := fun r => by unfold dErr; rw [herr]; simp
  rw [hde] at e
  have hlow2 : ∀ id,id < h0.length → blk? H2 id = blk? h0 id := fun id hid => by
   rw [dr.st.same id (by simp; omega) (by omega) (by show ¬ id = H.length; omega),hH1 id (by omega)]
   exact vl.low id hid
  have hlen2 : H.length + 1 ≤ H2.length := by have := dr.st.len; simpa using this
  have hrel2 : RelV c H.length H2 t' ((dRun m b i P O).run askV (l,false)).2 := dr.rel
  have hbox : blk? (H ++ [some ⟨false,[sv,.bool false]⟩]) M = some ⟨false,[.bool m.byp,.bool m.res,.bool m.rst,.bool m.cz,.bool m.sy]⟩ := by rw [hH1 _ hlM]; exact vl.box
  have hle := (Tr.Lv.out (A := askV) (size := fun _ => 0) (fun _ _ => by simp) (l,false) (lv_dRun vl.good (m := m) (n := i) (planes := P) (o := O) (runPP_ok hP (hP1 (by omega)) hO))).1
  obtain ⟨pl1,pl2⟩ := askV_play (dRun m b i P O) l
  simp only [MD.val] at e
  rw [ok_round,l28_0,L28_0a,L28_0b]
  subst hsh
  subst hs
  cases hpl : (dRun m b i P O).play l with
  | none =>
   have hbad := pl2 hpl
   have hb2 := hrel2.blk
   rw [hbad] at hb2
   rw [hpl] at hx
   obtain ⟨a2,c2,hs2⟩ := hrel2.sl.shape
   subst hs2
   simp [-List.cons_append,-List.append_assoc,k_guard,hlt,hivs,hbk,hc0,hbox,e,hb2,fin28]
   exact hx H2 8 rfl (by decide) hlow2 (by omega)
  | some q =>
   obtain ⟨⟨b',r⟩,l'⟩ := q
   have hrun := pl1 _ _ hpl
   rw [hrun] at e dr hrel2 hle
   rw [hpl] at hx hk
   have hb2 := hrel2.blk
   simp only at hb2 e hx hk dr hle
   obtain ⟨a2,c2,hs2⟩ := hrel2.sl.shape
   simp only at hs2
   cases r
   ·simp only [cond_false,if_true] at e hx
    subst hs2
    simp [-List.cons_append,-List.append_assoc,k_guard,hlt,hivs,hbk,hc0,hbox,e,hb2,fin28]
    exact hx H2 16 rfl (by decide) hlow2 (by omega)
   ·simp only [cond_true,Bool.true_eq_false,if_false] at e hx hk
    subst hs2
    cases l' with
    | cons y l' =>
     simp only at hx
     have hpos : (0 : Int) < (l'.length : Int) + 1 := by omega
     simp [-List.cons_append,-List.append_assoc,k_guard,hlt,hivs,hbk,hc0,hbox,e,hb2,hpos,fin28]
     exact hx H2 8 rfl (by decide) hlow2 (by omega)
    | nil =>
     simp only at hx hk
     simp [-List.cons_append,-List.append_assoc,k_guard,hlt,hivs,hbk,hc0,hbox,e,hb2,hw,fin28]
     have vl2 : VLv h0 H2 M p c m w hh b' := by
      refine ⟨hlow2,by omega,?_,dr.cb,dr.good,⟨d1,d2⟩,by rw [hle.w]; exact vl.bw,by rw [hle.h]; exact vl.bh,vl.dp⟩
      rw [dr.st.same M (by simp; omega) d2 (by show ¬ M = H.length; omega)]
      exact hbox
     exact ih (i + 1) H2 b' _ _ _ _ _ _ _ _ _ _ _ _ _ _ _ _ _ _ _ _ _ _ _ _ _ _ _ _ _ _ _ _ _ _ _ _ _ _ _ _ _ _ _ _ _ _ _ _ _ _ _ _ _ _ _ _ _ _ _ _ _ _ _ _ _ _ _ _ _ _ _ _ _ _ _ _ _ _ _ _ _ _ _ _ _ _ _ _ _ _ _ _ _ _ _ _ _ _ _ _ _ _ _ _ _ _ _ _ _ _ _ _ _ _ _ _ _ _ _ _ _ _ _ _ _ _ _ _ _ _ _ _ _ _ (by omega) (by omega) vl2 hk hx
structure VB (h0 H : Heap) (p c : Nat) (b : BS) (v1 v2 : Value) (xs ys : List Int) : Prop where
 low : ∀ id,id < h0.length → blk? H id = blk? h0 id
 len : h0.length ≤ H.length
 cb : CB H false p c b
 o1 : OwnS H 1 v1 xs.length (i64s xs)
 o2 : OwnS H 1 v2 ys.length (i64s ys)
 f1 : ∀ id,sid v1 = some id → h0.length ≤ id ∧ id ≠ c ∧ id ≠ p
 f2 : ∀ id,sid v2 = some id → h0.length ≤ id ∧ id ≠ c ∧ id ≠ p
 ne : ∀ id,sid v1 = some id → sid v2 ≠ some id
theorem VB.swap {h0 H : Heap} {p c : Nat} {b : BS} {v1 v2 : Value} {xs ys : List Int} (h : VB h0 H p c b v1 v2 xs ys) : VB h0 H p c b v2 v1 ys xs :=
 ⟨h.low,h.len,h.cb,h.o2,h.o1,h.f2,h.f1,fun id e e' => h.ne id e' e⟩
theorem VB.push1 {h0 H : Heap} {p c : Nat} {b : BS} {v1 v2 : Value} {xs ys : List Int} (h : VB h0 H p c b v1 v2 xs ys) (hl : xs.length < 100000) (v : Int) :
  ∃ H',appendV (H ++ [some ⟨false,[.int .i64 v]⟩]) 1 8 v1 (.slice (some ⟨H.length,0,none⟩) 1 1) = some (.slice (some ⟨H.length + 1,0,none⟩) (xs.length + 1) 1,H') ∧
   VB h0 H' p c b (.slice (some ⟨H.length + 1,0,none⟩) (xs.length + 1) 1) v2 (xs ++ [v]) ys := by
 have hsl : Sl (H ++ [some ⟨false,[.int .i64 v]⟩]) 1 (.slice (some ⟨H.length,0,none⟩) 1 1) 1 [.int .i64 v] :=
  ⟨by simp,.inr ⟨H.length,0,rfl,.inr ⟨_,blk?_push_eq,by simp,by simp⟩⟩⟩
 have ho : OwnS (H ++ [some ⟨false,[.int .i64 v]⟩]) 1 v1 xs.length (i64s xs) := h.o1.of_blk fun id _ hb => blk?_push hb
 obtain ⟨H',ha,hK,hHl,hHs⟩ := own_append (bytes := 8) ho hsl (by unfold roomCells; omega) (by omega) (by omega)
 simp only [List.length_append,List.length_singleton] at ha hK hHl hHs
 have hk : ∀ id,id < H.length → sid v1 ≠ some id → blk? H' id = blk? H id := fun id hid hne => by rw [hHs id (by omega) hne,blk?_push_lt hid]
 have hlen := h.len
 have lp := blk?_lt h.cb.blkp
 have lc := blk?_lt h.cb.blkc
 refine ⟨H',ha,fun id hid => ?_,by omega,⟨?_,?_,h.cb.ok⟩,?_,?_,fun id hid => ?_,h.f2,fun id hid e => ?_⟩
 ·rw [hk id (by omega) (fun e => by have := h.f1 id e; omega)]; exact h.low id hid
 ·rw [hk p lp (fun e => (h.f1 p e).2.2 rfl)]; exact h.cb.blkp
 ·rw [hk c lc (fun e => (h.f1 c e).2.1 rfl)]; exact h.cb.blkc
 ·refine ⟨by simp [i64s],.inr ⟨H.length + 1,by simp,?_⟩⟩
  rw [hK]; simp [i64s]
 ·refine h.o2.of_blk fun id hid hb => ?_
  rw [hk id (blk?_lt hb) (fun e => h.ne id e hid)]; exact hb
 ·simp [sid] at hid; omega
 ·simp [sid] at hid
  have := h.o2.lt e
  omega
theorem pass_neg {h : Heap} {R : Value → Heap → Prop} : Ret tab 62 [.int .i64 (-1)] h R = R (.tuple #[.int .i64 (-1),.int .i64 (-1)]) h := by
 rw [enter62,B62]
 simp [fin62]
theorem get_row {b : BS} (ho : b.Ok) {x y : Nat} (hx : x < b.w) (hy : y < b.h) : y * b.w + x < b.cs.length ∧ b.cs[y * b.w + x]? = some (b.get x y) := by
 have hi : b.inb x y := ⟨by omega,by omega,by omega,by omega⟩
 have h1 := BS.get_in ho hi
 have h2 := BS.idx_lt ho hi
 have e : b.idx x y = y * b.w + x := by
  unfold BS.idx
  rw [show ((y : Int) * b.w + x) = ((y * b.w + x : Nat) : Int) by simp]; rfl
 rw [e] at h1 h2
 exact ⟨h2,h1⟩
def valsTo (b : BS) (i : Nat) : List Int := (b.cs.take i).map (·.v)
def missTo (P : Int) (n : Nat) (b : BS) (i : Nat) : List Int := (b.cs.take i).map fun c => leftOf P n c.t
theorem valsTo_succ {b : BS} {i : Nat} {c : Cell} (h : b.cs[i]? = some c) : valsTo b (i + 1) = valsTo b i ++ [c.v] := by
 obtain ⟨hi,rfl⟩ := List.getElem?_eq_some_iff.1 h
 unfold valsTo
 rw [List.take_succ_eq_append_getElem hi,List.map_append]; rfl
theorem missTo_succ {P : Int} {n : Nat} {b : BS} {i : Nat} {c : Cell} (h : b.cs[i]? = some c) : missTo P n b (i + 1) = missTo P n b i ++ [leftOf P n c.t] := by
 obtain ⟨hi,rfl⟩ := List.getElem?_eq_some_iff.1 h
 unfold missTo
 rw [List.take_succ_eq_append_getElem hi,List.map_append]; rfl
theorem valsTo_len {b : BS} {i : Nat} (h : i ≤ b.cs.length) : (valsTo b i).length = i := by simp [valsTo]; omega
theorem missTo_len {P : Int} {n : Nat} {b : BS} {i : Nat} (h : i ≤ b.cs.length) : (missTo P n b i).length = i := by simp [missTo]; omega
section
variable {h0 : Heap} {p c : Nat} {b : BS} {P n : Nat} {pl kd : Int} {s v3 v4 v5 v11 v103 v104 : Value} {k : List RItem} {R : Value → Heap → Prop}
set_option maxRecDepth 10000 in
set_option maxHeartbeats 1000000 in
theorem valx_loop (hP : P ≤ 60) (hpl : -1 ≤ pl ∧ pl ≤ 100) (hleft : ∀ t,leftOf P n t = P - 1 - pl + if (decide (0 < n) && kd != 2 && !t) = true then 1 else 0) {y : Nat} (hy : y < b.h) :
  ∀ (m x : Nat) (H : Heap) (v1 v2 : Value) (K6 K7 K8 K9 Ka Ke Kg Kh Ki Kj Ko Kp Kq Kr Ks Kt Ku Kv Kw Kx Ky Kz J0 J1 J2 J3 J4 J5 J6 J7 J8 J9 Ja Jb Jc Jd Je Jf Jg Jh Ji Jj Jk Jl Jm Jn Jo Jp Jq Jr Js Jt Ju Jv Jw Jx Jy Jz Y0 Y1 Y2 Y3 Y4 Y5 Y6 Y7 Y8 Y9 Ya Yb Yc Yd Ye Yf Yg Yh Yi Yj Yk Yl Ym Yn Yo Yp Yq Yr Ys Yt Yu Yx Yy Z1 Z2 Z3 Z4 Z5 Z6 Z7 Z8 Z9 Za Zb Zc Zd Ze Zf Zg Zh Zi Zj Zk Zl Zm Zn Zo Zp Zq Zr Zs Zt Zu Zv Zw Zx Zy Zz K0q : Value),m = b.w - x → x ≤ b.w → VB h0 H p c b v1 v2 (valsTo b (y * b.w + x)) (missTo P n b (y * b.w + x)) →
   (∀ (H' : Heap) (v1' v2' : Value) (K6 K7 K8 K9 Ka Ke Kg Kh Ki Kj Ko Kp Kq Kr Ks Kt Ku Kv Kw Kx Ky Kz J0 J1 J2 J3 J4 J5 J6 J7 J8 J9 Ja Jb Jc Jd Je Jf Jg Jh Ji Jj Jk Jl Jm Jn Jo Jp Jq Jr Js Jt Ju Jv Jw Jx Jy Jz Y0 Y1 Y2 Y3 Y4 Y5 Y6 Y7 Y8 Y9 Ya Yb Yc Yd Ye Yf Yg Yh Yi Yj Yk Yl Ym Yn Yo Yp Yq Yr Ys Yt Yu Yx Yy Yz Z0 Z1 Z2 Z3 Z4 Z5 Z6 Z7 Z8 Z9 Za Zb Zc Zd Ze Zf Zg Zh Zi Zj Zk Zl Zm Zn Zo Zp Zq Zr Zs Zt Zu Zv Zw Zx Zy Zz K0q : Value),VB h0 H' p c b v1' v2' (valsTo b (y * b.w + b.w)) (missTo P n b (y * b.w + b.w)) →
    Ok tab R28 k #[s,.int .i64 P,.int .i64 b.w,v3,v4,v5,K6,K7,K8,K9,Ka,v11,v1',v2',Ke,ptr p,Kg,Kh,Ki,Kj,.int .i64 n,.int .i64 pl,.int .i64 kd,.int .i64 y,Ko,Kp,Kq,Kr,Ks,Kt,Ku,Kv,Kw,Kx,Ky,Kz,J0,J1,J2,J3,J4,J5,J6,J7,J8,J9,Ja,Jb,Jc,Jd,Je,Jf,Jg,Jh,Ji,Jj,Jk,Jl,Jm,Jn,Jo,Jp,Jq,Jr,Js,Jt,Ju,Jv,Jw,Jx,Jy,Jz,Y0,Y1,Y2,Y3,Y4,Y5,Y6,Y7,Y8,Y9,Ya,Yb,Yc,Yd,Ye,Yf,Yg,Yh,Yi,Yj,Yk,Yl,Ym,Yn,Yo,Yp,Yq,Yr,Ys,Yt,Yu,v103,v104,Yx,Yy,Yz,Z0,Z1,Z2,Z3,Z4,Z5,Z6,Z7,Z8,Z9,Za,Zb,Zc,Zd,Ze,Zf,Zg,Zh,Zi,Zj,Zk,Zl,Zm,Zn,Zo,Zp,Zq,Zr,Zs,Zt,Zu,Zv,Zw,Zx,Zy,Zz,K0q] H' R) →
   Ok tab R28 (.inLoop L28_1 :: .inBlock 4 :: k) #[s,.int .i64 P,.int .i64 b.w,v3,v4,v5,K6,K7,K8,K9,Ka,v11,v1,v2,Ke,ptr p,Kg,Kh,Ki,Kj,.int .i64 n,.int .i64 pl,.int .i64 kd,.int .i64 y,Ko,Kp,Kq,Kr,Ks,Kt,Ku,Kv,Kw,Kx,Ky,Kz,J0,J1,J2,J3,J4,J5,J6,J7,J8,J9,Ja,Jb,Jc,Jd,Je,Jf,Jg,Jh,Ji,Jj,Jk,Jl,Jm,Jn,Jo,Jp,Jq,Jr,Js,Jt,Ju,Jv,Jw,Jx,Jy,Jz,Y0,Y1,Y2,Y3,Y4,Y5,Y6,Y7,Y8,Y9,Ya,Yb,Yc,Yd,Ye,Yf,Yg,Yh,Yi,Yj,Yk,Yl,Ym,Yn,Yo,Yp,Yq,Yr,Ys,Yt,Yu,v103,v104,Yx,Yy,.int .i64 b.w,.int .i64 x,Z1,Z2,Z3,Z4,Z5,Z6,Z7,Z8,Z9,Za,Zb,Zc,Zd,Ze,Zf,Zg,Zh,Zi,Zj,Zk,Zl,Zm,Zn,Zo,Zp,Zq,Zr,Zs,Zt,Zu,Zv,Zw,Zx,Zy,Zz,K0q] H R := by
 intro m
 induction m with
 | zero =>
  intro x H v1 v2 K6 K7 K8 K9 Ka Ke Kg Kh Ki Kj Ko Kp Kq Kr Ks Kt Ku Kv Kw Kx Ky Kz J0 J1 J2 J3 J4 J5 J6 J7 J8 J9 Ja Jb Jc Jd Je Jf Jg Jh Ji Jj Jk Jl Jm Jn Jo Jp Jq Jr Js Jt Ju Jv Jw Jx Jy Jz Y0 Y1 Y2 Y3 Y4 Y5 Y6 Y7 Y8 Y9 Ya Yb Yc Yd Ye Yf Yg Yh Yi Yj Yk Yl Ym Yn Yo Yp Yq Yr Ys Yt Yu Yx Yy Z1 Z2 Z3 Z4 Z5 Z6 Z7 Z8 Z9 Za Zb Zc Zd Ze Zf Zg Zh Zi Zj Zk Zl Zm Zn Zo Zp Zq Zr Zs Zt Zu Zv Zw Zx Zy Zz K0q hm hx vb hk
  have hlt : ¬ ((x : Int) < b.w) := by omega
  obtain rfl : x = b.w := by omega
  rw [ok_round,l28_1,L28_1a,L28_1b]
  simp [hlt]
  exact hk H v1 v2 _ _ _ _ _ _ _ _ _ _ _ _ _ _ _ _ _ _ _ _ _ _ _ _ _ _ _ _ _ _ _ _ _ _ _ _ _ _ _ _ _ _ _ _ _ _ _ _ _ _ _ _ _ _ _ _ _ _ _ _ _ _ _ _ _ _ _ _ _ _ _ _ _ _ _ _ _ _ _ _ _ _ _ _ _ _ _ _ _ _ _ _ _ _ _ _ _ _ _ _ _ _ _ _ _ _ _ _ _ _ _ _ _ _ _ _ _ _ _ _ _ _ _ _ _ _ _ _ _ vb
 | succ m ih =>
  intro x H v1 v2 K6 K7 K8 K9 Ka Ke Kg Kh Ki Kj Ko Kp Kq Kr Ks Kt Ku Kv Kw Kx Ky Kz J0 J1 J2 J3 J4 J5 J6 J7 J8 J9 Ja Jb Jc Jd Je Jf Jg Jh Ji Jj Jk Jl Jm Jn Jo Jp Jq Jr Js Jt Ju Jv Jw Jx Jy Jz Y0 Y1 Y2 Y3 Y4 Y5 Y6 Y7 Y8 Y9 Ya Yb Yc Yd Ye Yf Yg Yh Yi Yj Yk Yl Ym Yn Yo Yp Yq Yr Ys Yt Yu Yx Yy Z1 Z2 Z3 Z4 Z5 Z6 Z7 Z8 Z9 Za Zb Zc Zd Ze Zf Zg Zh Zi Zj Zk Zl Zm Zn Zo Zp Zq Zr Zs Zt Zu Zv Zw Zx Zy Zz K0q hm hx vb hk
  have hxl : x < b.w := by omega
  have hlt : ((x : Int) < b.w) := by omega
  have hw2 := vb.cb.ok.w2
  have hh2 := vb.cb.ok.h2
  have hm64 : y * b.w ≤ 64 * 64 := Nat.mul_le_mul (by omega) hw2
  have hw : IntKind.i64.wrap ((x : Int) + 1) = ((x + 1 : Nat) : Int) := wrapN (n := x + 1) (by omega)
  obtain ⟨hil,hgi⟩ := get_row vb.cb.ok hxl hy
  have hwa : IntKind.i64.wrap ((P : Int) - 1) = (P : Int) - 1 := wrapI (by omega) (by omega)
  have hwb : IntKind.i64.wrap ((P : Int) - 1 - pl) = (P : Int) - 1 - pl := wrapI (by omega) (by omega)
  have hwc : IntKind.i64.wrap ((P : Int) - 1 - pl + 1) = (P : Int) - 1 - pl + 1 := wrapI (by omega) (by omega)
  have hv := fun R => value_c (R := R) (x := (x : Int)) (y := (y : Int)) vb.cb
  obtain ⟨H1,e1,vb1⟩ := vb.push1 (by rw [valsTo_len (by omega)]; omega) (b.get x y).v
  have ht := fun R => touched_c (R := R) (x := (x : Int)) (y := (y : Int)) vb1.cb
  obtain ⟨H2,e2,vb2⟩ := vb1.swap.push1 (by rw [missTo_len (by omega)]; omega) (leftOf P n (b.get x y).t)
  have vb3 := vb2.swap
  rw [← valsTo_succ hgi,← missTo_succ (P := P) (n := n) hgi] at vb3
  rw [Nat.add_assoc] at vb3
  have hl := hleft (b.get x y).t
  rw [valsTo_len (by omega)] at e1 vb3
  rw [missTo_len (by omega)] at e2 vb3
  generalize hnx : ((x + 1 : Nat) : Int) = xi at *
  have ih' := fun K6 K7 K8 K9 Ka Ke Kg Kh Ki Kj Ko Kp Kq Kr Ks Kt Ku Kv Kw Kx Ky Kz J0 J1 J2 J3 J4 J5 J6 J7 J8 J9 Ja Jb Jc Jd Je Jf Jg Jh Ji Jj Jk Jl Jm Jn Jo Jp Jq Jr Js Jt Ju Jv Jw Jx Jy Jz Y0 Y1 Y2 Y3 Y4 Y5 Y6 Y7 Y8 Y9 Ya Yb Yc Yd Ye Yf Yg Yh Yi Yj Yk Yl Ym Yn Yo Yp Yq Yr Ys Yt Yu Yx Yy Z1 Z2 Z3 Z4 Z5 Z6 Z7 Z8 Z9 Za Zb Zc Zd Ze Zf Zg Zh Zi Zj Zk Zl Zm Zn Zo Zp Zq Zr Zs Zt Zu Zv Zw Zx Zy Zz K0q => ih (x + 1) H2 _ _ K6 K7 K8 K9 Ka Ke Kg Kh Ki Kj Ko Kp Kq Kr Ks Kt Ku Kv Kw Kx Ky Kz J0 J1 J2 J3 J4 J5 J6 J7 J8 J9 Ja Jb Jc Jd Je Jf Jg Jh Ji Jj Jk Jl Jm Jn Jo Jp Jq Jr Js Jt Ju Jv Jw Jx Jy Jz Y0 Y1 Y2 Y3 Y4 Y5 Y6 Y7 Y8 Y9 Ya Yb Yc Yd Ye Yf Yg Yh Yi Yj Yk Yl Ym Yn Yo Yp Yq Yr Ys Yt Yu Yx Yy Z1 Z2 Z3 Z4 Z5 Z6 Z7 Z8 Z9 Za Zb Zc Zd Ze Zf Zg Zh Zi Zj Zk Zl Zm Zn Zo Zp Zq Zr Zs Zt Zu Zv Zw Zx Zy Zz K0q (by omega) (by omega) vb3 hk
  rw [hnx] at ih'
  rw [ok_round,l28_1,L28_1a,L28_1b]
  generalize leftOf P n (b.get x y).t = lf at *
  generalize (b.get x y).v = vv at *
  by_cases h1 : 0 < n
  ·have h1' : (0 : Int) < (n : Int) := by omega
   by_cases h2 : kd = 2
   ·have h2' : (kd != 2) = false := by simp [h2]
    simp [h2'] at hl
    subst hl
    simp [k_guard,k_guardU,hlt,hv,repL,e1,hwa,hwb,h1,h1',h2',e2,hw]
    exact ih' ..
   ·have h2' : (kd != 2) = true := by simp [h2]
    cases htt : (b.get x y).t
    ·simp [h1,h2',htt] at hl
     rw [htt] at ht
     subst hl
     simp [k_guard,k_guardU,hlt,hv,repL,e1,hwa,hwb,hwc,h1,h1',h2',ht,e2,hw]
     exact ih' ..
    ·simp [htt] at hl
     rw [htt] at ht
     subst hl
     simp [k_guard,k_guardU,hlt,hv,repL,e1,hwa,hwb,h1,h1',h2',ht,e2,hw]
     exact ih' ..
  ·have h1' : ¬ (0 : Int) < (n : Int) := by omega
   simp [h1] at hl
   subst hl
   simp [k_guard,k_guardU,hlt,hv,repL,e1,hwa,hwb,h1,h1',e2,hw]
   exact ih' ..
set_option maxRecDepth 10000 in
set_option maxHeartbeats 1000000 in
theorem valy_loop (hP : P ≤ 60) (hpl : -1 ≤ pl ∧ pl ≤ 100) (hleft : ∀ t,leftOf P n t = P - 1 - pl + if (decide (0 < n) && kd != 2 && !t) = true then 1 else 0) :
  ∀ (m y : Nat) (H : Heap) (v1 v2 : Value) (K6 K7 K8 K9 Ka Ke Kg Kh Ki Kj Kn Ko Kp Kq Kr Ks Kt Ku Kv Kw Kx Ky Kz J0 J1 J2 J3 J4 J5 J6 J7 J8 J9 Ja Jb Jc Jd Je Jf Jg Jh Ji Jj Jk Jl Jm Jn Jo Jp Jq Jr Js Jt Ju Jv Jw Jx Jy Jz Y0 Y1 Y2 Y3 Y4 Y5 Y6 Y7 Y8 Y9 Ya Yb Yc Yd Ye Yf Yg Yh Yi Yj Yk Yl Ym Yn Yo Yp Yq Yr Ys Yt Yu Yx Yy Yz Z0 Z1 Z2 Z3 Z4 Z5 Z6 Z7 Z8 Z9 Za Zb Zc Zd Ze Zf Zg Zh Zi Zj Zk Zl Zm Zn Zo Zp Zq Zr Zs Zt Zu Zv Zw Zx Zy Zz K0q : Value),m = b.h - y → y ≤ b.h → VB h0 H p c b v1 v2 (valsTo b (y * b.w)) (missTo P n b (y * b.w)) →
   (∀ (H' : Heap) (v1' v2' : Value) (K6 K7 K8 K9 Ka Ke Kg Kh Ki Kj Kn Ko Kp Kq Kr Ks Kt Ku Kv Kw Kx Ky Kz J0 J1 J2 J3 J4 J5 J6 J7 J8 J9 Ja Jb Jc Jd Je Jf Jg Jh Ji Jj Jk Jl Jm Jn Jo Jp Jq Jr Js Jt Ju Jv Jw Jx Jy Jz Y0 Y1 Y2 Y3 Y4 Y5 Y6 Y7 Y8 Y9 Ya Yb Yc Yd Ye Yf Yg Yh Yi Yj Yk Yl Ym Yn Yo Yp Yq Yr Ys Yt Yu Yv Yw Yx Yy Yz Z0 Z1 Z2 Z3 Z4 Z5 Z6 Z7 Z8 Z9 Za Zb Zc Zd Ze Zf Zg Zh Zi Zj Zk Zl Zm Zn Zo Zp Zq Zr Zs Zt Zu Zv Zw Zx Zy Zz K0q : Value),VB h0 H' p c b v1' v2' (valsTo b (b.h * b.w)) (missTo P n b (b.h * b.w)) →
    Ok tab R28 k #[s,.int .i64 P,.int .i64 b.w,v3,v4,v5,K6,K7,K8,K9,Ka,v11,v1',v2',Ke,ptr p,Kg,Kh,Ki,Kj,.int .i64 n,.int .i64 pl,.int .i64 kd,Kn,Ko,Kp,Kq,Kr,Ks,Kt,Ku,Kv,Kw,Kx,Ky,Kz,J0,J1,J2,J3,J4,J5,J6,J7,J8,J9,Ja,Jb,Jc,Jd,Je,Jf,Jg,Jh,Ji,Jj,Jk,Jl,Jm,Jn,Jo,Jp,Jq,Jr,Js,Jt,Ju,Jv,Jw,Jx,Jy,Jz,Y0,Y1,Y2,Y3,Y4,Y5,Y6,Y7,Y8,Y9,Ya,Yb,Yc,Yd,Ye,Yf,Yg,Yh,Yi,Yj,Yk,Yl,Ym,Yn,Yo,Yp,Yq,Yr,Ys,Yt,Yu,Yv,Yw,Yx,Yy,Yz,Z0,Z1,Z2,Z3,Z4,Z5,Z6,Z7,Z8,Z9,Za,Zb,Zc,Zd,Ze,Zf,Zg,Zh,Zi,Zj,Zk,Zl,Zm,Zn,Zo,Zp,Zq,Zr,Zs,Zt,Zu,Zv,Zw,Zx,Zy,Zz,K0q] H' R) →
   Ok tab R28 (.inLoop L28_2 :: .inBlock 2 :: k) #[s,.int .i64 P,.int .i64 b.w,v3,v4,v5,K6,K7,K8,K9,Ka,v11,v1,v2,Ke,ptr p,Kg,Kh,Ki,Kj,.int .i64 n,.int .i64 pl,.int .i64 kd,Kn,Ko,Kp,Kq,Kr,Ks,Kt,Ku,Kv,Kw,Kx,Ky,Kz,J0,J1,J2,J3,J4,J5,J6,J7,J8,J9,Ja,Jb,Jc,Jd,Je,Jf,Jg,Jh,Ji,Jj,Jk,Jl,Jm,Jn,Jo,Jp,Jq,Jr,Js,Jt,Ju,Jv,Jw,Jx,Jy,Jz,Y0,Y1,Y2,Y3,Y4,Y5,Y6,Y7,Y8,Y9,Ya,Yb,Yc,Yd,Ye,Yf,Yg,Yh,Yi,Yj,Yk,Yl,Ym,Yn,Yo,Yp,Yq,Yr,Ys,Yt,Yu,.int .i64 b.h,.int .i64 y,Yx,Yy,Yz,Z0,Z1,Z2,Z3,Z4,Z5,Z6,Z7,Z8,Z9,Za,Zb,Zc,Zd,Ze,Zf,Zg,Zh,Zi,Zj,Zk,Zl,Zm,Zn,Zo,Zp,Zq,Zr,Zs,Zt,Zu,Zv,Zw,Zx,Zy,Zz,K0q] H R := by
 intro m
 induction m with
 | zero =>
  intro y H v1 v2 K6 K7 K8 K9 Ka Ke Kg Kh Ki Kj Kn Ko Kp Kq Kr Ks Kt Ku Kv Kw Kx Ky Kz J0 J1 J2 J3 J4 J5 J6 J7 J8 J9 Ja Jb Jc Jd Je Jf Jg Jh Ji Jj Jk Jl Jm Jn Jo Jp Jq Jr Js Jt Ju Jv Jw Jx Jy Jz Y0 Y1 Y2 Y3 Y4 Y5 Y6 Y7 Y8 Y9 Ya Yb Yc Yd Ye Yf Yg Yh Yi Yj Yk Yl Ym Yn Yo Yp Yq Yr Ys Yt Yu Yx Yy Yz Z0 Z1 Z2 Z3 Z4 Z5 Z6 Z7 Z8 Z9 Za Zb Zc Zd Ze Zf Zg Zh Zi Zj Zk Zl Zm Zn Zo Zp Zq Zr Zs Zt Zu Zv Zw Zx Zy Zz K0q hm hy vb hk
  have hlt : ¬ ((y : Int) < b.h) := by omega
  obtain rfl : y = b.h := by omega
  rw [ok_round,l28_2,L28_2a,L28_2b]
  simp [hlt]
  exact hk H v1 v2 _ _ _ _ _ _ _ _ _ _ _ _ _ _ _ _ _ _ _ _ _ _ _ _ _ _ _ _ _ _ _ _ _ _ _ _ _ _ _ _ _ _ _ _ _ _ _ _ _ _ _ _ _ _ _ _ _ _ _ _ _ _ _ _ _ _ _ _ _ _ _ _ _ _ _ _ _ _ _ _ _ _ _ _ _ _ _ _ _ _ _ _ _ _ _ _ _ _ _ _ _ _ _ _ _ _ _ _ _ _ _ _ _ _ _ _ _ _ _ _ _ _ _ _ _ _ _ _ _ _ _ _ vb
 | succ m ih =>
  intro y H v1 v2 K6 K7 K8 K9 Ka Ke Kg Kh Ki Kj Kn Ko Kp Kq Kr Ks Kt Ku Kv Kw Kx Ky Kz J0 J1 J2 J3 J4 J5 J6 J7 J8 J9 Ja Jb Jc Jd Je Jf Jg Jh Ji Jj Jk Jl Jm Jn Jo Jp Jq Jr Js Jt Ju Jv Jw Jx Jy Jz Y0 Y1 Y2 Y3 Y4 Y5 Y6 Y7 Y8 Y9 Ya Yb Yc Yd Ye Yf Yg Yh Yi Yj Yk Yl Ym Yn Yo Yp Yq Yr Ys Yt Yu Yx Yy Yz Z0 Z1 Z2 Z3 Z4 Z5 Z6 Z7 Z8 Z9 Za Zb Zc Zd Ze Zf Zg Zh Zi Zj Zk Zl Zm Zn Zo Zp Zq Zr Zs Zt Zu Zv Zw Zx Zy Zz K0q hm hy vb hk
  have hlt : ((y : Int) < b.h) := by omega
  have hh2 := vb.cb.ok.h2
  have hw : IntKind.i64.wrap ((y : Int) + 1) = ((y + 1 : Nat) : Int) := wrapN (n := y + 1) (by omega)
  rw [ok_round,l28_2,L28_2a,L28_2b]
  simp [hlt]
  refine valx_loop hP hpl hleft (y := y) (by omega) b.w 0 H v1 v2 _ _ _ _ _ _ _ _ _ _ _ _ _ _ _ _ _ _ _ _ _ _ _ _ _ _ _ _ _ _ _ _ _ _ _ _ _ _ _ _ _ _ _ _ _ _ _ _ _ _ _ _ _ _ _ _ _ _ _ _ _ _ _ _ _ _ _ _ _ _ _ _ _ _ _ _ _ _ _ _ _ _ _ _ _ _ _ _ _ _ _ _ _ _ _ _ _ _ _ _ _ _ _ _ _ _ _ _ _ _ _ _ _ _ _ _ _ _ _ _ _ _ _ _ _ _ _ (by omega) (by omega) vb ?_
  intro H' v1' v2' K6 K7 K8 K9 Ka Ke Kg Kh Ki Kj Ko Kp Kq Kr Ks Kt Ku Kv Kw Kx Ky Kz J0 J1 J2 J3 J4 J5 J6 J7 J8 J9 Ja Jb Jc Jd Je Jf Jg Jh Ji Jj Jk Jl Jm Jn Jo Jp Jq Jr Js Jt Ju Jv Jw Jx Jy Jz Y0 Y1 Y2 Y3 Y4 Y5 Y6 Y7 Y8 Y9 Ya Yb Yc Yd Ye Yf Yg Yh Yi Yj Yk Yl Ym Yn Yo Yp Yq Yr Ys Yt Yu Yx Yy Yz Z0 Z1 Z2 Z3 Z4 Z5 Z6 Z7 Z8 Z9 Za Zb Zc Zd Ze Zf Zg Zh Zi Zj Zk Zl Zm Zn Zo Zp Zq Zr Zs Zt Zu Zv Zw Zx Zy Zz K0q vb'
  have e : (y + 1) * b.w = y * b.w + b.w := by rw [Nat.add_mul]; omega
  rw [← e] at vb'
  have ih' := fun K6 K7 K8 K9 Ka Ke Kg Kh Ki Kj Kn Ko Kp Kq Kr Ks Kt Ku Kv Kw Kx Ky Kz J0 J1 J2 J3 J4 J5 J6 J7 J8 J9 Ja Jb Jc Jd Je Jf Jg Jh Ji Jj Jk Jl Jm Jn Jo Jp Jq Jr Js Jt Ju Jv Jw Jx Jy Jz Y0 Y1 Y2 Y3 Y4 Y5 Y6 Y7 Y8 Y9 Ya Yb Yc Yd Ye Yf Yg Yh Yi Yj Yk Yl Ym Yn Yo Yp Yq Yr Ys Yt Yu Yx Yy Yz Z0 Z1 Z2 Z3 Z4 Z5 Z6 Z7 Z8 Z9 Za Zb Zc Zd Ze Zf Zg Zh Zi Zj Zk Zl Zm Zn Zo Zp Zq Zr Zs Zt Zu Zv Zw Zx Zy Zz K0q => ih (y + 1) H' v1' v2' K6 K7 K8 K9 Ka Ke Kg Kh Ki Kj Kn Ko Kp Kq Kr Ks Kt Ku Kv Kw Kx Ky Kz J0 J1 J2 J3 J4 J5 J6 J7 J8 J9 Ja Jb Jc Jd Je Jf Jg Jh Ji Jj Jk Jl Jm Jn Jo Jp Jq Jr Js Jt Ju Jv Jw Jx Jy Jz Y0 Y1 Y2 Y3 Y4 Y5 Y6 Y7 Y8 Y9 Ya Yb Yc Yd Ye Yf Yg Yh Yi Yj Yk Yl Ym Yn Yo Yp Yq Yr Ys Yt Yu Yx Yy Yz Z0 Z1 Z2 Z3 Z4 Z5 Z6 Z7 Z8 Z9 Za Zb Zc Zd Ze Zf Zg Zh Zi Zj Zk Zl Zm Zn Zo Zp Zq Zr Zs Zt Zu Zv Zw Zx Zy Zz K0q (by omega) (by omega) vb' hk
  generalize ((y + 1 : Nat) : Int) = yi at *
  simp [hw]
  exact ih' ..
end
structure VOut (h h' : Heap) (v1 v2 : Value) (r : Int × List Int × List Int) : Prop where
 o1 : OwnS h' 1 v1 r.2.1.length (i64s r.2.1)
 o2 : OwnS h' 1 v2 r.2.2.length (i64s r.2.2)
 low : ∀ id,id < h.length → blk? h' id = blk? h id
 len : h.length ≤ h'.length
theorem VOut.bad {h h' : Heap} (low : ∀ id,id < h.length → blk? h' id = blk? h id) (len : h.length ≤ h'.length) (e : Int) : VOut h h' (.slice none 0 0) (.slice none 0 0) (e,[],[]) := ⟨OwnS.nil _ _,OwnS.nil _ _,low,len⟩
set_option maxRecDepth 10000 in
set_option maxHeartbeats 1000000 in
theorem values_d {h : Heap} {s : Value} {vs : List Value} {ls : List (List (Int × Int))} (hp : PsI h s vs ls) (hl : ls.length < 100000) (P w hh o : Int) (hPr : -9223372036854775808 ≤ P ∧ P < 9223372036854775808) (m : MD) :
  ∃ v1 v2 h',(∀ R,Ret tab 28 [s,.int .i64 P,.int .i64 w,.int .i64 hh,.int .i64 o,m.val] h R = R (.tuple #[v1,v2,.int .i64 (valRes ls P w hh o m).1]) h') ∧ VOut h h' v1 v2 (valRes ls P w hh o m) := by
 have key : Ret tab 28 [s,.int .i64 P,.int .i64 w,.int .i64 hh,.int .i64 o,m.val] h fun v h' => ∃ v1 v2,v = .tuple #[v1,v2,.int .i64 (valRes ls P w hh o m).1] ∧ VOut h h' v1 v2 (valRes ls P w hh o m) := by
  obtain ⟨a,cc,hs⟩ := hp.sl.shape
  rw [hp.len] at hs
  rw [enter28,show B28 = .seq (nthC 0 B28) (.seq (nthC 1 B28) (.seq (nthC 2 B28) (.seq (nthC 3 B28) (.seq (nthC 4 B28) (tlC 5 B28))))) from rfl]
  generalize hT : tlC 5 B28 = tl
  simp only [nthC,tlC,fstC,B28]
  have hkp : ∀ x : Option Blk,∀ id,id < h.length → blk? (h ++ [x]) id = blk? h id := fun x id hid => blk?_push_lt hid
  have hbadr : ∀ e,valErr ls.length P w hh o = e → e ≠ 0 → valRes ls P w hh o m = (e,[],[]) := fun e he h0 => by unfold valRes; rw [he,if_pos h0]
  cases hsz : sized w hh
  ·have hr := hbadr 2 (by unfold valErr; rw [if_pos (.inl (by simp [hsz]))]) (by decide)
   rw [hr]
   simp [MD.val,new_bad hsz,k_guard,k_guardU,fin28]
   exact ⟨_,_,⟨rfl,rfl⟩,VOut.bad (hkp _) (by simp) _⟩
  have hsz' := hsz
  simp only [sized,decide_eq_true_eq] at hsz'
  obtain ⟨w,rfl⟩ := Int.eq_ofNat_of_zero_le (show 0 ≤ w by omega)
  obtain ⟨hh,rfl⟩ := Int.eq_ofNat_of_zero_le (show 0 ≤ hh by omega)
  have w1 : 1 ≤ w := by omega
  have w2 : w ≤ 64 := by omega
  have h1 : 1 ≤ hh := by omega
  have h2 : hh ≤ 64 := by omega
  have hm : w * hh ≤ 64 * 64 := Nat.mul_le_mul w2 h2
  have hnew := fun H R => new_c (h := H) (R := R) w1 w2 h1 h2
  have hls : ∀ H : Heap,(newHeap H w hh).length = H.length + 2 := fun H => newHeap_len H w hh
  have hlow : ∀ x : Option Blk,∀ id,id < h.length → blk? (newHeap (h ++ [x]) w hh) id = blk? h id := fun x id hid => by
   rw [newHeap_low _ _ _ id (by simp; omega)]; exact hkp x id hid
  by_cases hp1 : P < 0
  ·have hr := hbadr 2 (by unfold valErr; rw [if_pos (.inr (.inl hp1))]) (by decide)
   rw [hr]
   simp [MD.val,hnew,k_guard,k_guardU,hp1,fin28]
   exact ⟨_,_,⟨rfl,rfl⟩,VOut.bad (hlow _) (by rw [hls]; simp; omega) _⟩
  by_cases hp2 : 60 < P
  ·have hr := hbadr 2 (by unfold valErr; rw [if_pos (.inr (.inr hp2))]) (by decide)
   rw [hr]
   simp [MD.val,hnew,k_guard,k_guardU,hp1,hp2,fin28]
   exact ⟨_,_,⟨rfl,rfl⟩,VOut.bad (hlow _) (by rw [hls]; simp; omega) _⟩
  have hne2 : ¬ (¬ sized (w : Int) (hh : Int) = true ∨ P < 0 ∨ 60 < P) := by rw [hsz]; simp; omega
  have hm1 : IntKind.i64.wrap (3 * P) = 3 * P := wrapI (by omega) (by omega)
  have hm2 : IntKind.i64.wrap (3 * P - 2) = 3 * P - 2 := wrapI (by omega) (by omega)
  have hmx : fold1 max2V [.int .i64 0,.int .i64 (3 * P - 2)] = some (.int .i64 (max 0 (3 * P - 2))) := by
   simp only [fold1,foldO,max2V]
   congr 2
   split <;> omega
  by_cases hln : max 0 (3 * P - 2) < (ls.length : Int)
  ·have hr := hbadr 4 (by unfold valErr; rw [if_neg hne2,if_pos hln]) (by decide)
   rw [hr]
   simp [MD.val,hnew,k_guard,k_guardU,hp1,hp2,hs,hm1,hm2,hmx,hln,fin28]
   exact ⟨_,_,⟨rfl,rfl⟩,VOut.bad (hlow _) (by rw [hls]; simp; omega) _⟩
  by_cases ho1 : o < 0
  ·have hr := hbadr 3 (by unfold valErr; rw [if_neg hne2,if_neg hln,if_pos (.inl ho1)]) (by decide)
   rw [hr]
   simp [MD.val,hnew,k_guard,k_guardU,hp1,hp2,hs,hm1,hm2,hmx,hln,ho1,fin28]
   exact ⟨_,_,⟨rfl,rfl⟩,VOut.bad (hlow _) (by rw [hls]; simp; omega) _⟩
  by_cases ho2 : 3 < o
  ·have hr := hbadr 3 (by unfold valErr; rw [if_neg hne2,if_neg hln,if_pos (.inr ho2)]) (by decide)
   rw [hr]
   simp [MD.val,hnew,k_guard,k_guardU,hp1,hp2,hs,hm1,hm2,hmx,hln,ho1,ho2,fin28]
   exact ⟨_,_,⟨rfl,rfl⟩,VOut.bad (hlow _) (by rw [hls]; simp; omega) _⟩
  obtain ⟨P,rfl⟩ := Int.eq_ofNat_of_zero_le (show 0 ≤ P by omega)
  obtain ⟨o,rfl⟩ := Int.eq_ofNat_of_zero_le (show 0 ≤ o by omega)
  have herr : valErr ls.length (P : Int) w hh o = 0 := by unfold valErr; rw [if_neg hne2,if_neg hln,if_neg (by omega)]
  generalize hr : valRes ls (P : Int) w hh o m = r
  have hr' : r = if (vLoop m P o 0 (newBS w hh) ls).2 ≠ 0 then ((vLoop m P o 0 (newBS w hh) ls).2,[],[]) else (0,(vLoop m P o 0 (newBS w hh) ls).1.cs.map (·.v),(vLoop m P o 0 (newBS w hh) ls).1.cs.map fun c => leftOf P ls.length c.t) := by
   rw [← hr]; unfold valRes; rw [herr,if_neg (by simp)]; simp only [Int.toNat_natCast]
  simp [MD.val,hnew,k_guard,k_guardU,hp1,hp2,hs,hm1,hm2,hmx,hln,ho1,ho2]
  rw [← hT]
  simp only [tlC,B28]
  generalize hH : newHeap (h ++ [some (⟨false,[.bool m.byp,.bool m.res,.bool m.rst,.bool m.cz,.bool m.sy]⟩ : Blk)]) w hh = H
  have hlowH : ∀ id,id < h.length → blk? H id = blk? h id := by rw [← hH]; exact hlow _
  have hlenH : H.length = h.length + 3 := by rw [← hH,hls]; simp
  have vl : VLv h H h.length (h.length + 2) (h.length + 1) m w hh (newBS w hh) := by
   refine ⟨hlowH,by omega,?_,?_,newBS_good w1 w2 h1 h2,⟨by omega,by omega⟩,rfl,rfl,by omega⟩
   ·rw [← hH,newHeap_low _ _ _ _ (by simp)]; exact blk?_push_eq
   ·rw [← hH]
    have := newHeap_cb (h ++ [some (⟨false,[.bool m.byp,.bool m.res,.bool m.rst,.bool m.cz,.bool m.sy]⟩ : Blk)]) w1 w2 h1 h2
    simpa using this
  have hvn : (vLoop m P o 0 (newBS w hh) (ls.drop 0)) = vLoop m P o 0 (newBS w hh) ls := rfl
  simp
  rw [← hs]
  refine vals_loop (w := w) (hh := hh) hp (by omega) (by omega) (by omega) (by omega) ls.length 0 H (newBS w hh) _ _ _ _ _ _ _ _ _ _ _ _ _ _ _ _ _ _ _ _ _ _ _ _ _ _ _ _ _ _ _ _ _ _ _ _ _ _ _ _ _ _ _ _ _ _ _ _ _ _ _ _ _ _ _ _ _ _ _ _ _ _ _ _ _ _ _ _ _ _ _ _ _ _ _ _ _ _ _ _ _ _ _ _ _ _ _ _ _ _ _ _ _ _ _ _ _ _ _ _ _ _ _ _ _ _ _ _ _ _ _ _ _ _ _ _ _ _ _ _ _ _ _ _ _ _ _ _ _ _ _ _ _ _ rfl (by omega) vl ?_ ?_
  ·intro H1 b' K6 K7 K8 K9 Ka Kc Kd Ke Kg Kh Ki Kj Kk Kl Km Kn Ko Kp Kq Kr Ks Kt Ku Kv Kw Kx Ky Kz J0 J1 J2 J3 J4 J5 J6 J7 J8 J9 Ja Jb Jc Jd Je Jf Jg Jh Ji Jj Jk Jl Jm Jn Jo Jp Jq Jr Js Jt Ju Jv Jw Jx Jy Jz Y0 Y1 Y2 Y3 Y4 Y5 Y6 Y7 Y8 Y9 Ya Yb Yc Yd Ye Yf Yg Yh Yi Yj Yk Yl Ym Yn Yo Yp Yq Yr Ys Yt Yu Yv Yw Yx Yy Yz Z0 Z1 Z2 Z3 Z4 Z5 Z6 Z7 Z8 Z9 Za Zb Zc Zd Ze Zf Zg Zh Zi Zj Zk Zl Zm Zn Zo Zp Zq Zr Zs Zt Zu Zv Zw Zx Zy Zz K0q hv vl1
   rw [hvn] at hv
   rw [hv] at hr'
   simp only [ne_eq,not_true_eq_false,if_false] at hr'
   have hbw := vl1.bw
   have hbh := vl1.bh
   have hmwi : IntKind.i64.wrap ((w : Int) * (hh : Int)) = ((w * hh : Nat) : Int) := by rw [← Int.natCast_mul]; exact wrapN (by omega)
   have hroom : ((w * hh : Nat) : Int) ≤ (roomCells : Int) := by unfold roomCells; omega
   have hroom0 : (0 : Int) ≤ ((w * hh : Nat) : Int) := by omega
   generalize ((w * hh : Nat) : Int) = whi at hmwi hroom hroom0
   have lp := blk?_lt vl1.cb.blkp
   have lc := blk?_lt vl1.cb.blkc
   have hlen1 := vl1.len
   obtain ⟨dc,dM⟩ := vl1.d
   have dp := vl1.dp
   have hvb : VB h (H1 ++ [some ⟨false,[]⟩,some ⟨false,[]⟩]) (h.length + 2) (h.length + 1) b' (.slice (some ⟨H1.length,0,none⟩) 0 1) (.slice (some ⟨H1.length + 1,0,none⟩) 0 1) (valsTo b' (0 * b'.w)) (missTo P ls.length b' (0 * b'.w)) := by
    refine ⟨fun id hid => by rw [app_lt (by omega)]; exact vl1.low id hid,by simp; omega,⟨by rw [app_lt lp]; exact vl1.cb.blkp,by rw [app_lt lc]; exact vl1.cb.blkc,vl1.cb.ok⟩,⟨by simp [valsTo,i64s],.inr ⟨H1.length,by simp [valsTo],?_⟩⟩,⟨by simp [missTo,i64s],.inr ⟨H1.length + 1,by simp [missTo],?_⟩⟩,fun id hid => ?_,fun id hid => ?_,fun id hid e => ?_⟩
    ·rw [app_len]; simp [valsTo,i64s]; rfl
    ·rw [app_add]; simp [missTo,i64s]; rfl
    ·simp [sid] at hid; omega
    ·simp [sid] at hid; omega
    ·simp [sid] at hid e; omega
   have fin : ∀ (pl kd : Int) (K6 K7 K8 K9 Ka Ke Kg Kh Ki Kj Kn Ko Kp Kq Kr Ks Kt Ku Kv Kw Kx Ky Kz J0 J1 J2 J3 J4 J5 J6 J7 J8 J9 Ja Jb Jc Jd Je Jf Jg Jh Ji Jj Jk Jl Jm Jn Jo Jp Jq Jr Js Jt Ju Jv Jw Jx Jy Jz Y0 Y1 Y2 Y3 Y4 Y5 Y6 Y7 Y8 Y9 Ya Yb Yc Yd Ye Yf Yg Yh Yi Yj Yk Yl Ym Yn Yo Yp Yq Yr Ys Yt Yu Yx Yy Yz Z0 Z1 Z2 Z3 Z4 Z5 Z6 Z7 Z8 Z9 Za Zb Zc Zd Ze Zf Zg Zh Zi Zj Zk Zl Zm Zn Zo Zp Zq Zr Zs Zt Zu Zv Zw Zx Zy Zz K0q : Value),(-1 ≤ pl ∧ pl ≤ 100) → (∀ t,leftOf P ls.length t = P - 1 - pl + if (decide (0 < ls.length) && kd != 2 && !t) = true then 1 else 0) →
     Ok tab R28 (.inLoop L28_2 :: .inBlock 2 :: [.code (.seq (.region [⟨some 143,.mov (.tmp 12),none⟩,⟨some 144,.mov (.tmp 13),none⟩,⟨some 12,.mov (.tmp 143),none⟩,⟨some 13,.mov (.tmp 144),none⟩,⟨some 14,.mov (.const (.int .i64 0)),none⟩] []) .ret)]) #[s,.int .i64 P,.int .i64 w,.int .i64 hh,.int .i64 o,.agg #[.bool m.byp,.bool m.res,.bool m.rst,.bool m.cz,.bool m.sy],K6,K7,K8,K9,Ka,ptr h.length,.slice (some ⟨H1.length,0,none⟩) 0 1,.slice (some ⟨H1.length + 1,0,none⟩) 0 1,Ke,ptr (h.length + 2),Kg,Kh,Ki,Kj,.int .i64 ls.length,.int .i64 pl,.int .i64 kd,Kn,Ko,Kp,Kq,Kr,Ks,Kt,Ku,Kv,Kw,Kx,Ky,Kz,J0,J1,J2,J3,J4,J5,J6,J7,J8,J9,Ja,Jb,Jc,Jd,Je,Jf,Jg,Jh,Ji,Jj,Jk,Jl,Jm,Jn,Jo,Jp,Jq,Jr,Js,Jt,Ju,Jv,Jw,Jx,Jy,Jz,Y0,Y1,Y2,Y3,Y4,Y5,Y6,Y7,Y8,Y9,Ya,Yb,Yc,Yd,Ye,Yf,Yg,Yh,Yi,Yj,Yk,Yl,Ym,Yn,Yo,Yp,Yq,Yr,Ys,Yt,Yu,.int .i64 hh,.int .i64 0,Yx,Yy,Yz,Z0,Z1,Z2,Z3,Z4,Z5,Z6,Z7,Z8,Z9,Za,Zb,Zc,Zd,Ze,Zf,Zg,Zh,Zi,Zj,Zk,Zl,Zm,Zn,Zo,Zp,Zq,Zr,Zs,Zt,Zu,Zv,Zw,Zx,Zy,Zz,K0q] (H1 ++ [some ⟨false,[]⟩,some ⟨false,[]⟩])
      fun v h' => ∃ v1 v2,v = .tuple #[v1,v2,.int .i64 r.1] ∧ VOut h h' v1 v2 r := by
    intro pl kd K6 K7 K8 K9 Ka Ke Kg Kh Ki Kj Kn Ko Kp Kq Kr Ks Kt Ku Kv Kw Kx Ky Kz J0 J1 J2 J3 J4 J5 J6 J7 J8 J9 Ja Jb Jc Jd Je Jf Jg Jh Ji Jj Jk Jl Jm Jn Jo Jp Jq Jr Js Jt Ju Jv Jw Jx Jy Jz Y0 Y1 Y2 Y3 Y4 Y5 Y6 Y7 Y8 Y9 Ya Yb Yc Yd Ye Yf Yg Yh Yi Yj Yk Yl Ym Yn Yo Yp Yq Yr Ys Yt Yu Yx Yy Yz Z0 Z1 Z2 Z3 Z4 Z5 Z6 Z7 Z8 Z9 Za Zb Zc Zd Ze Zf Zg Zh Zi Zj Zk Zl Zm Zn Zo Zp Zq Zr Zs Zt Zu Zv Zw Zx Zy Zz K0q hpl hleft
    rw [← hbw,← hbh]
    refine valy_loop (P := P) (n := ls.length) (by omega) hpl hleft b'.h 0 _ _ _ _ _ _ _ _ _ _ _ _ _ _ _ _ _ _ _ _ _ _ _ _ _ _ _ _ _ _ _ _ _ _ _ _ _ _ _ _ _ _ _ _ _ _ _ _ _ _ _ _ _ _ _ _ _ _ _ _ _ _ _ _ _ _ _ _ _ _ _ _ _ _ _ _ _ _ _ _ _ _ _ _ _ _ _ _ _ _ _ _ _ _ _ _ _ _ _ _ _ _ _ _ _ _ _ _ _ _ _ _ _ _ _ _ _ _ _ _ _ _ _ _ _ _ _ _ _ _ _ _ _ rfl (by omega) hvb ?_
    intro H' v1' v2' K6 K7 K8 K9 Ka Ke Kg Kh Ki Kj Kn Ko Kp Kq Kr Ks Kt Ku Kv Kw Kx Ky Kz J0 J1 J2 J3 J4 J5 J6 J7 J8 J9 Ja Jb Jc Jd Je Jf Jg Jh Ji Jj Jk Jl Jm Jn Jo Jp Jq Jr Js Jt Ju Jv Jw Jx Jy Jz Y0 Y1 Y2 Y3 Y4 Y5 Y6 Y7 Y8 Y9 Ya Yb Yc Yd Ye Yf Yg Yh Yi Yj Yk Yl Ym Yn Yo Yp Yq Yr Ys Yt Yu Yv Yw Yx Yy Yz Z0 Z1 Z2 Z3 Z4 Z5 Z6 Z7 Z8 Z9 Za Zb Zc Zd Ze Zf Zg Zh Zi Zj Zk Zl Zm Zn Zo Zp Zq Zr Zs Zt Zu Zv Zw Zx Zy Zz K0q vb
    have hfl : b'.h * b'.w = b'.cs.length := by rw [vl1.cb.ok.len,Nat.mul_comm]
    have ev : valsTo b' (b'.h * b'.w) = b'.cs.map (·.v) := by unfold valsTo; rw [List.take_of_length_le (by omega)]
    have em : missTo P ls.length b' (b'.h * b'.w) = b'.cs.map fun c => leftOf P ls.length c.t := by unfold missTo; rw [List.take_of_length_le (by omega)]
    rw [ev,em] at vb
    simp [fin28]
    rw [hr']
    exact ⟨v1',v2',⟨rfl,rfl,rfl⟩,by simpa using vb.o1,by simpa using vb.o2,vb.low,vb.len⟩
   by_cases hn0 : ls.length = 0
   ·have hw0 : IntKind.i64.wrap ((ls.length : Int) - 1) = -1 := by rw [hn0]; decide
    have hnn := fun h R => pass_neg (h := h) (R := R)
    have f := fin (-1) (-1)
    simp [hs,hmwi,hroom,hroom0,hw0,hnn]
    rw [← hs]
    exact f _ _ _ _ _ _ _ _ _ _ _ _ _ _ _ _ _ _ _ _ _ _ _ _ _ _ _ _ _ _ _ _ _ _ _ _ _ _ _ _ _ _ _ _ _ _ _ _ _ _ _ _ _ _ _ _ _ _ _ _ _ _ _ _ _ _ _ _ _ _ _ _ _ _ _ _ _ _ _ _ _ _ _ _ _ _ _ _ _ _ _ _ _ _ _ _ _ _ _ _ _ _ _ _ _ _ _ _ _ _ _ _ _ _ _ _ _ _ _ _ _ _ _ _ _ _ _ _ _ _ (by omega) (fun t => by unfold leftOf; rw [if_pos hn0]; simp [hn0])
   ·have hw0 : IntKind.i64.wrap ((ls.length : Int) - 1) = ((ls.length - 1 : Nat) : Int) := by rw [wrapI (by omega) (by omega)]; omega
    have hnn := fun h R => pass_c (h := h) (R := R) (n := ls.length - 1) (by omega)
    have hpo : planeOf (ls.length - 1) ≤ P - 1 := planeOf_le (by omega) (by omega)
    have f := fin (planeOf (ls.length - 1) : Nat) (kindOf (ls.length - 1) : Nat)
    have hlf : ∀ t,leftOf P ls.length t = P - 1 - ((planeOf (ls.length - 1) : Nat) : Int) + if (decide (0 < ls.length) && ((kindOf (ls.length - 1) : Nat) : Int) != 2 && !t) = true then 1 else 0 := by
     intro t
     rw [leftOf_pos hn0]
     have e1 : (((kindOf (ls.length - 1) : Nat) : Int) != 2) = (kindOf (ls.length - 1) != 2) := by
      rw [Bool.eq_iff_iff]; simp; omega
     have e2 : decide (0 < ls.length) = true := by simp; omega
     rw [e1,e2,Bool.true_and]
    have hpl2 : (-1 : Int) ≤ ((planeOf (ls.length - 1) : Nat) : Int) ∧ ((planeOf (ls.length - 1) : Nat) : Int) ≤ 100 := by omega
    generalize ((planeOf (ls.length - 1) : Nat) : Int) = pl at *
    generalize ((kindOf (ls.length - 1) : Nat) : Int) = kd at *
    generalize ((ls.length - 1 : Nat) : Int) = n1 at *
    simp [hs,hmwi,hroom,hroom0,hw0,hnn]
    rw [← hs]
    exact f _ _ _ _ _ _ _ _ _ _ _ _ _ _ _ _ _ _ _ _ _ _ _ _ _ _ _ _ _ _ _ _ _ _ _ _ _ _ _ _ _ _ _ _ _ _ _ _ _ _ _ _ _ _ _ _ _ _ _ _ _ _ _ _ _ _ _ _ _ _ _ _ _ _ _ _ _ _ _ _ _ _ _ _ _ _ _ _ _ _ _ _ _ _ _ _ _ _ _ _ _ _ _ _ _ _ _ _ _ _ _ _ _ _ _ _ _ _ _ _ _ _ _ _ _ _ _ _ _ _ hpl2 hlf
  ·intro H1 e he h0 low len
   rw [hvn] at he
   rw [he,if_pos h0] at hr'
   rw [hr']
   exact ⟨_,_,rfl,VOut.bad low len _⟩
 obtain ⟨v,h',e,v1,v2,rfl,rs⟩ := ret_ex key
 exact ⟨v1,v2,h',e,rs⟩
set_option maxRecDepth 10000
def toI (l : List (Int × Nat)) : List (Int × Int) := l.map fun p => (p.1,(p.2 : Int))
theorem encP_toI : ∀ l : List (Int × Nat),encP (toI l) = encS l
 | [] => rfl
 | p :: l => by
  have := encP_toI l
  simp only [toI,List.map_cons] at this ⊢
  simp only [encP,encS,this]
theorem RdV.psI {B : Nat} {h : Heap} {lv : Value} {ls : List (List (Int × Nat))} (r : RdV B h lv ls) : ∃ vs,PsI h lv vs (ls.map toI) := by
 obtain ⟨vs,a,b,c,_⟩ := r.ex
 refine ⟨vs,a.sl,by simp [b],fun i h1 h2 => ?_,fun i h1 id hid => (c i h1 (by omega)).lt hid⟩
 have h3 : i < ls.length := by simpa using h2
 have e : (ls.map toI)[i] = toI ls[i] := by simp
 rw [e,encP_toI,show (toI ls[i]).length = ls[i].length by simp [toI]]
 exact (c i h1 h3).sl
def decP (m : MD) (pl : Int) (ps : List Int) (ds : List Nat) (n w hh o : Int) : Int × List Int × List Int :=
 if checkP pl ps (ds.map Int.ofNat) n w hh o ≠ 0 then (checkP pl ps (ds.map Int.ofNat) n w hh o,[],[])
 else valRes ((readP m pl o ps ds n.toNat w.toNat hh.toNat).ls.map toI) pl w hh o m
theorem passesR_len (m : MD) (pl o : Int) : ∀ (q i : Nat) (s : Rdg),(passesR m pl o q i s).ls.length = s.ls.length + q
 | 0,_,s => rfl
 | q + 1,i,s => by simp only [passesR]; rw [passesR_len m pl o q]; simp; omega
theorem segsR_len (m : MD) (pl o : Int) (ps : List Int) (ds : List Nat) : ∀ (gs : List Nat) (beg : Nat) (s : Rdg),(segsR m pl o ps ds gs beg s).ls.length = s.ls.length + sumL gs
 | [],_,s => rfl
 | c :: cs,beg,s => by
  simp only [segsR,sumL]
  rw [segsR_len m pl o ps ds cs,passesR_len]
  split <;> simp <;> omega
theorem readP_len (m : MD) (pl o : Int) (ps : List Int) (ds : List Nat) {n w hh : Nat} (hn : n ≤ 178) : (readP m pl o ps ds n w hh).ls.length = n := by
 unfold readP
 rw [segsR_len,(segs_sum hn).1]; simp
section
variable {h : Heap} {pv dv : Value} {pl : Int} {ps : List Int} {ds : List Nat} {m : MD}
theorem check_ok {n w hh o : Int} (hc : checkP pl ps (ds.map Int.ofNat) n w hh o = 0) : validP pl ps (ds.map Int.ofNat) = 0 ∧ 0 ≤ n ∧ n ≤ ps.length ∧ 1 ≤ w ∧ w ≤ 64 ∧ 1 ≤ hh ∧ hh ≤ 64 ∧ 0 ≤ o ∧ o ≤ 3 := by
 unfold checkP at hc
 split at hc
 ·rename_i h1; exact absurd hc h1
 ·rename_i h1
  split at hc
  ·cases hc
  ·split at hc
   ·cases hc
   ·refine ⟨by simpa using h1,?_⟩; omega
theorem readC {n w hh o : Int} (hp : Rk .i64 h pv ps) (hd : Rk .u8 h dv (ds.map Int.ofNat)) (hds : ∀ x ∈ ds,x < 256) (hc : checkP pl ps (ds.map Int.ofNat) n w hh o = 0) :
  ∃ lv h',(∀ R : Value → Heap → Prop,Ret tab 27 [.agg #[.int .i64 pl,pv,dv],.int .i64 n,.int .i64 w,.int .i64 hh,.int .i64 o,m.val] h R = R (.tuple #[lv,.int .i64 (readP m pl o ps ds n.toNat w.toNat hh.toNat).snd,.int .i64 0]) h') ∧
   RdV h.length h' lv (readP m pl o ps ds n.toNat w.toNat hh.toNat).ls ∧ (∀ id,id < h.length → blk? h' id = blk? h id) ∧ h.length ≤ h'.length := by
 obtain ⟨hv,n0,n1,w1,w2,h1,h2,o0,o1⟩ := check_ok hc
 obtain ⟨p0,p1,p2,_,p4⟩ := valid_ends hv
 obtain ⟨z0,z1⟩ := valid_zE hv
 simp only [List.length_map] at z1 p4
 obtain ⟨n,rfl⟩ := Int.eq_ofNat_of_zero_le n0
 obtain ⟨w,rfl⟩ := Int.eq_ofNat_of_zero_le (show 0 ≤ w by omega)
 obtain ⟨hh,rfl⟩ := Int.eq_ofNat_of_zero_le (show 0 ≤ hh by omega)
 simp only [Int.toNat_natCast]
 exact read_c m hp hd z0 z1 (by omega) hds (by omega) (by omega) (by omega) (by omega) (by omega) (by omega)
set_option maxHeartbeats 1000000 in
theorem decode_c {n w hh o : Int} (hp : Rk .i64 h pv ps) (hd : Rk .u8 h dv (ds.map Int.ofNat)) (hds : ∀ x ∈ ds,x < 256) (hl : ps.length < 1000000) (hdl : ds.length < 1000000000) :
  ∃ v1 v2 h',(∀ R : Value → Heap → Prop,Ret tab 11 [.agg #[.int .i64 pl,pv,dv],.int .i64 n,.int .i64 w,.int .i64 hh,.int .i64 o,m.val] h R = R (.tuple #[v1,v2,.int .i64 (decP m pl ps ds n w hh o).1]) h') ∧ VOut h h' v1 v2 (decP m pl ps ds n w hh o) := by
 have key : ∀ R0 : Value → Heap → Prop,(∀ v1 v2 h',VOut h h' v1 v2 (decP m pl ps ds n w hh o) → R0 (.tuple #[v1,v2,.int .i64 (decP m pl ps ds n w hh o).1]) h') → Ret tab 11 [.agg #[.int .i64 pl,pv,dv],.int .i64 n,.int .i64 w,.int .i64 hh,.int .i64 o,m.val] h R0 := by
  intro R0 hR
  generalize hH : h ++ [some (⟨false,[.int .i64 pl,pv,dv]⟩ : Blk),some ⟨false,[.bool m.byp,.bool m.res,.bool m.rst,.bool m.cz,.bool m.sy]⟩] = H
  have lH : H.length = h.length + 2 := by rw [← hH]; simp
  have kH : ∀ id,id < h.length → blk? H id = blk? h id := fun id hid => by rw [← hH]; exact app_lt hid
  have b0 : blk? H h.length = some ⟨false,[.int .i64 pl,pv,dv]⟩ := by rw [← hH,app_len]; rfl
  have b1 : blk? H (h.length + 1) = some ⟨false,[.bool m.byp,.bool m.res,.bool m.rst,.bool m.cz,.bool m.sy]⟩ := by rw [← hH,app_add]; rfl
  have hpH : Rk .i64 H pv ps := by rw [← hH]; exact hp.push _
  have hdH : Rk .u8 H dv (ds.map Int.ofNat) := by rw [← hH]; exact hd.push _
  obtain ⟨H1,e1,k1,l1⟩ := check_c (m := m) (pl := pl) hpH hdH hl (by rw [List.length_map]; exact hdl) n w hh o
  have b01 : blk? H1 h.length = some ⟨false,[.int .i64 pl,pv,dv]⟩ := by rw [k1 _ (by omega)]; exact b0
  have b11 : blk? H1 (h.length + 1) = some ⟨false,[.bool m.byp,.bool m.res,.bool m.rst,.bool m.cz,.bool m.sy]⟩ := by rw [k1 _ (by omega)]; exact b1
  simp only [MD.val] at e1
  rw [enter11,B11]
  by_cases hc : checkP pl ps (ds.map Int.ofNat) n w hh o = 0
  case neg =>
   have hc' : (checkP pl ps (ds.map Int.ofNat) n w hh o != 0) = true := by simpa using hc
   have e : decP m pl ps ds n w hh o = (checkP pl ps (ds.map Int.ofNat) n w hh o,[],[]) := by unfold decP; rw [if_pos hc]
   rw [e] at hR
   simp [MD.val,hH,b0,b1,e1,hc',fin11]
   exact hR _ _ _ (VOut.bad (fun id hid => by rw [k1 id (by omega),kH id hid]) (by omega) _)
  have hc' : (checkP pl ps (ds.map Int.ofNat) n w hh o != 0) = false := by simpa using hc
  have e : decP m pl ps ds n w hh o = valRes ((readP m pl o ps ds n.toNat w.toNat hh.toNat).ls.map toI) pl w hh o m := by unfold decP; rw [if_neg (by simp [hc])]
  rw [e] at hR
  obtain ⟨hv,_⟩ := check_ok hc
  obtain ⟨p0,p1,p2,_,p4⟩ := valid_ends hv
  have hp1 : Rk .i64 H1 pv ps := hpH.keep l1 fun id hid _ => k1 id hid
  have hd1 : Rk .u8 H1 dv (ds.map Int.ofNat) := hdH.keep l1 fun id hid _ => k1 id hid
  obtain ⟨lv,H2,e2,r2,k2,l2⟩ := readC (m := m) hp1 hd1 hds hc
  obtain ⟨vs,q2⟩ := r2.psI
  have b02 : blk? H2 h.length = some ⟨false,[.int .i64 pl,pv,dv]⟩ := by rw [k2 _ (by omega)]; exact b01
  have b12 : blk? H2 (h.length + 1) = some ⟨false,[.bool m.byp,.bool m.res,.bool m.rst,.bool m.cz,.bool m.sy]⟩ := by rw [k2 _ (by omega)]; exact b11
  have hlen : (readP m pl o ps ds n.toNat w.toNat hh.toNat).ls.length < 100000 := by
   obtain ⟨_,c1,c2,_⟩ := check_ok hc
   rw [readP_len m pl o ps ds (by omega)]; omega
  obtain ⟨v1,v2,H3,e3,V3⟩ := values_d q2 (by simpa using hlen) pl w hh o (by omega) m
  simp only [MD.val] at e2 e3
  simp [MD.val,hH,b0,b1,e1,hc',b01,b11,e2,b02,b12,e3,fin11]
  exact hR _ _ _ ⟨V3.o1,V3.o2,fun id hid => by rw [V3.low id (by omega),k2 id (by omega),k1 id (by omega),kH id hid],by have := V3.len; omega⟩
 obtain ⟨v,h',e,v1,v2,rfl,a⟩ := ret_ex (key (fun v h' => ∃ v1 v2,v = .tuple #[v1,v2,.int .i64 (decP m pl ps ds n w hh o).1] ∧ VOut h h' v1 v2 (decP m pl ps ds n w hh o)) fun v1 v2 h' a => ⟨v1,v2,rfl,a⟩)
 exact ⟨v1,v2,h',e,a⟩
def sndP (m : MD) (pl : Int) (ps : List Int) (ds : List Nat) (n w hh o : Int) : Int × Int :=
 if checkP pl ps (ds.map Int.ofNat) n w hh o ≠ 0 then (0,checkP pl ps (ds.map Int.ofNat) n w hh o)
 else if m.sy = false then (n,0) else ((readP m pl o ps ds n.toNat w.toNat hh.toNat).snd,0)
set_option maxHeartbeats 1000000 in
theorem sound_c {n w hh o : Int} (hp : Rk .i64 h pv ps) (hd : Rk .u8 h dv (ds.map Int.ofNat)) (hds : ∀ x ∈ ds,x < 256) (hl : ps.length < 1000000) (hdl : ds.length < 1000000000) :
  Gives 14 [.agg #[.int .i64 pl,pv,dv],.int .i64 n,.int .i64 w,.int .i64 hh,.int .i64 o,m.val] h (.tuple #[.int .i64 (sndP m pl ps ds n w hh o).1,.int .i64 (sndP m pl ps ds n w hh o).2]) := by
 refine Gives.mk fun R0 hR => ?_
 generalize hH : h ++ [some (⟨false,[.int .i64 pl,pv,dv]⟩ : Blk),some ⟨false,[.bool m.byp,.bool m.res,.bool m.rst,.bool m.cz,.bool m.sy]⟩] = H
 have lH : H.length = h.length + 2 := by rw [← hH]; simp
 have kH : ∀ id,id < h.length → blk? H id = blk? h id := fun id hid => by rw [← hH]; exact app_lt hid
 have b0 : blk? H h.length = some ⟨false,[.int .i64 pl,pv,dv]⟩ := by rw [← hH,app_len]; rfl
 have b1 : blk? H (h.length + 1) = some ⟨false,[.bool m.byp,.bool m.res,.bool m.rst,.bool m.cz,.bool m.sy]⟩ := by rw [← hH,app_add]; rfl
 have hpH : Rk .i64 H pv ps := by rw [← hH]; exact hp.push _
 have hdH : Rk .u8 H dv (ds.map Int.ofNat) := by rw [← hH]; exact hd.push _
 obtain ⟨H1,e1,k1,l1⟩ := check_c (m := m) (pl := pl) hpH hdH hl (by rw [List.length_map]; exact hdl) n w hh o
 have b01 : blk? H1 h.length = some ⟨false,[.int .i64 pl,pv,dv]⟩ := by rw [k1 _ (by omega)]; exact b0
 have b11 : blk? H1 (h.length + 1) = some ⟨false,[.bool m.byp,.bool m.res,.bool m.rst,.bool m.cz,.bool m.sy]⟩ := by rw [k1 _ (by omega)]; exact b1
 simp only [MD.val] at e1
 rw [enter14,B14]
 unfold sndP at hR
 by_cases hc : checkP pl ps (ds.map Int.ofNat) n w hh o = 0
 case neg =>
  have hc' : (checkP pl ps (ds.map Int.ofNat) n w hh o != 0) = true := by simpa using hc
  rw [if_pos hc] at hR
  simp [MD.val,hH,b0,b1,e1,hc',fin14]
  exact hR _ (fun id hid => by rw [k1 id (by omega),kH id hid]) (by omega)
 have hc' : (checkP pl ps (ds.map Int.ofNat) n w hh o != 0) = false := by simpa using hc
 rw [if_neg (by simp [hc])] at hR
 cases hsy : m.sy with
 | false =>
  rw [hsy] at hH b1 b11 e1 hR
  simp only [if_true] at hR
  simp [MD.val,hsy,hH,b0,b1,e1,hc',b01,b11,fin14]
  exact hR _ (fun id hid => by rw [k1 id (by omega),kH id hid]) (by omega)
 | true =>
  have hp1 : Rk .i64 H1 pv ps := hpH.keep l1 fun id hid _ => k1 id hid
  have hd1 : Rk .u8 H1 dv (ds.map Int.ofNat) := hdH.keep l1 fun id hid _ => k1 id hid
  obtain ⟨lv,H2,e2,r2,k2,l2⟩ := readC (m := m) hp1 hd1 hds hc
  simp only [MD.val] at e2
  rw [hsy] at hH b1 b11 e1 hR e2
  simp only [Bool.true_eq_false,if_false] at hR
  simp [MD.val,hsy,hH,b0,b1,e1,hc',b01,b11,e2,fin14]
  exact hR _ (fun id hid => by rw [k2 id (by omega),k1 id (by omega),kH id hid]) (by omega)
end
section
variable {pl : Int} {ps ds : List Int} {a b : Nat}
end
section
variable {pl : Int} {ps : List Int} {ds : List Nat} {m : MD} {a : Nat} {n w hh o : Int}
end
theorem dx1 : decP ⟨false,false,false,false,false⟩ 1 [1] [192] 1 1 1 0 = (0,[-1],[0]) := by decide +kernel
theorem dx2 : decP ⟨false,false,false,false,false⟩ 1 [1] [192] 0 1 1 0 = (0,[0],[1]) := by decide +kernel
theorem dx3 : sndP ⟨false,false,false,false,true⟩ 1 [0] [] 1 1 1 0 = (0,0) := by decide +kernel
set_option maxRecDepth 10000
theorem sl_int {h : Heap} {s : Value} {xs : List Int} (hs : Sl h 1 s xs.length (i64s xs)) {i : Nat} (hi : i < xs.length) : ∃ id off b,s = .slice (some ⟨id,off,none⟩) xs.length 1 ∧ blk? h id = some b ∧ b.cells[off + i]? = some (.int .i64 xs[i]) := by
 obtain ⟨id,off,b,e,hb,hc⟩ := hs.get hi
 have := hc 0 (by omega)
 refine ⟨id,off,b,e,hb,?_⟩
 rw [Nat.mul_one,Nat.add_zero,Nat.add_zero] at this
 rw [this]; simp [i64s,hi]
section
variable {h : Heap} {R : Value → Heap → Prop} {s t : Value} {xs ys : List Int}
theorem same_loop_18 {k : List RItem} (hs : Sl h 1 s xs.length (i64s xs)) (ht : Sl h 1 t ys.length (i64s ys)) (he : xs.length = ys.length) (hl : xs.length < 1000000)
  (hk : ∀ (K0 K1 K2 K3 K5 K6 K7 K8 K9 Ka Kb Kc Kd Ke Kf Kg Kh Ki Kj Kk Kl Km Kn Ko Kp : Value),xs = ys → Ok tab R13 k #[K0,K1,K2,K3,.bool false,K5,K6,K7,K8,K9,Ka,Kb,Kc,Kd,Ke,Kf,Kg,Kh,Ki,Kj,Kk,Kl,Km,Kn,Ko,Kp] h R) (hb : xs ≠ ys → R (.bool false) h) :
  ∀ (d i : Nat) (K2 K3 K5 K6 K7 K8 K9 Ka Kb Ke Kf Kg Kh Ki Kj Kk Kl Km Kn Ko Kp : Value),i + d = xs.length → xs.take i = ys.take i → Ok tab R13 (.inLoop L13_0 :: .inBlock 0 :: k) #[s,t,K2,K3,.bool false,K5,K6,K7,K8,K9,Ka,Kb,.int .i64 (xs.length : Nat),.int .i64 (i : Nat),Ke,Kf,Kg,Kh,Ki,Kj,Kk,Kl,Km,Kn,Ko,Kp] h R := by
 intro d
 induction d with
 | zero =>
  intro i K2 K3 K5 K6 K7 K8 K9 Ka Kb Ke Kf Kg Kh Ki Kj Kk Kl Km Kn Ko Kp hd hv
  obtain rfl : i = xs.length := by omega
  rw [List.take_of_length_le (Nat.le_refl _),he,List.take_of_length_le (Nat.le_refl _)] at hv
  rw [ok_round,l13_0,L13_0a,L13_0b]
  simp
  exact hk _ _ _ _ _ _ _ _ _ _ _ _ _ _ _ _ _ _ _ _ _ _ _ _ _ hv
 | succ d ih =>
  intro i K2 K3 K5 K6 K7 K8 K9 Ka Kb Ke Kf Kg Kh Ki Kj Kk Kl Km Kn Ko Kp hd hv
  have hi : i < xs.length := by omega
  have hi' : i < ys.length := by omega
  have hlt : (i : Int) < (xs.length : Int) := by omega
  have hlt' : (i : Int) < (ys.length : Int) := by omega
  obtain ⟨id,off,b,e,hbk,hc⟩ := sl_int hs hi
  obtain ⟨id',off',b',e',hbk',hc'⟩ := sl_int ht hi'
  have hw : IntKind.i64.wrap ((i : Int) + 1) = ((i + 1 : Nat) : Int) := wrapN (n := i + 1) (by omega)
  have ih' := fun K2 K3 K5 K6 K7 K8 K9 Ka Kb Ke Kf Kg Kh Ki Kj Kk Kl Km Kn Ko Kp => ih (i + 1) K2 K3 K5 K6 K7 K8 K9 Ka Kb Ke Kf Kg Kh Ki Kj Kk Kl Km Kn Ko Kp (by omega)
  generalize hi1 : ((i + 1 : Nat) : Int) = i1 at *
  rw [e,e'] at ih' ⊢
  rw [ok_round,l13_0,L13_0a,L13_0b]
  by_cases hx : xs[i] = ys[i]
  ·have hx' : (xs[i] != ys[i]) = false := by simp [hx]
   have ee : xs.take (i + 1) = ys.take (i + 1) := by
    rw [List.take_succ_eq_append_getElem hi,List.take_succ_eq_append_getElem hi',hv,hx]
   simp [hlt,hlt',hbk,hbk',hc,hc',hx',hw]
   exact ih' _ _ _ _ _ _ _ _ _ _ _ _ _ _ _ _ _ _ _ _ _ ee
  ·have hx' : (xs[i] != ys[i]) = true := by simpa using hx
   simp [hlt,hlt',hbk,hbk',hc,hc',hx',fin13]
   exact hb fun e => hx (by simp [e])
theorem same_18 (hs : Sl h 1 s xs.length (i64s xs)) (ht : Sl h 1 t ys.length (i64s ys)) (hl : xs.length < 1000000) : Ret tab 13 [s,t] h R = R (.bool (decide (xs = ys))) h := by
 have key : Ret tab 13 [s,t] h fun v h' => v = .bool (decide (xs = ys)) ∧ h' = h := by
  obtain ⟨sa,sc,hss⟩ := hs.shape
  obtain ⟨ta,tc,hts⟩ := ht.shape
  rw [enter13,B13]
  by_cases he : xs.length = ys.length
  ·have he' : ((xs.length : Int) != (ys.length : Int)) = false := by simp [he]
   have hL := fun K2 K3 K5 K6 K7 K8 K9 Ka Kb Ke Kf Kg Kh Ki Kj Kk Kl Km Kn Ko Kp => same_loop_18 (R := fun v h' => v = .bool (decide (xs = ys)) ∧ h' = h) (k := [.code (tlC 3 B13)]) hs ht he hl
    (fun K0 K1 K2 K3 K5 K6 K7 K8 K9 Ka Kb Kc Kd Ke Kf Kg Kh Ki Kj Kk Kl Km Kn Ko Kp hxy => by
     simp only [nthC,tlC,fstC,B13]
     simp [hxy,fin13]) (fun hxy => by simp [hxy]) xs.length 0 K2 K3 K5 K6 K7 K8 K9 Ka Kb Ke Kf Kg Kh Ki Kj Kk Kl Km Kn Ko Kp (by omega) rfl
   simp only [tlC,B13] at hL
   rw [hss,hts] at hL ⊢
   simp [he']
   exact hL ..
  ·have he' : ((xs.length : Int) != (ys.length : Int)) = true := by simp only [bne_iff_ne,ne_eq]; omega
   have hne : ¬ xs = ys := fun x => he (by rw [x])
   rw [hss,hts]
   simp [he',hne,fin13]
 obtain ⟨v,h',e,rfl,rfl⟩ := ret_ex key
 exact e R
end
set_option maxRecDepth 10000
deriving instance DecidableEq for Cd
theorem Sl.lit1 {h : Heap} {id : Nat} {v : Value} (hb : blk? h id = some ⟨false,[v]⟩) : Sl h 1 (.slice (some ⟨id,0,none⟩) 1 1) 1 [v] := ⟨rfl,.inr ⟨id,0,rfl,.inr ⟨_,hb,by simp,by simp⟩⟩⟩
theorem Ints.lit1 {h : Heap} {id : Nat} {v : Int} (hb : blk? h id = some ⟨false,[.int .i64 v]⟩) (hv : -9223372036854775808 ≤ v ∧ v < 9223372036854775808) : Ints h (.slice (some ⟨id,0,none⟩) 1 1) [v] := by
 refine ⟨Sl.lit1 hb,by simp; exact blk?_lt hb,fun j b hj hb' n => ?_,fun w hw => by simp at hw; subst hw; exact hv⟩
 simp [sid] at hj; subst hj
 rw [hb] at hb'; injection hb' with hb'; subst hb'
 simp [belowL]
theorem Rk.ofI {h : Heap} {s : Value} {xs : List Nat} (ho : OwnS h 1 s xs.length (nI xs)) (hx : ∀ v ∈ xs,v < 9223372036854775808) : Rk .i64 h s (xs.map Int.ofNat) := by
 refine Rk.own (by rw [List.length_map]; simpa [kis,nI,Function.comp_def] using ho) ?_ (fun v hv => ?_)
 ·obtain ⟨a,c,rfl⟩ := ho.sl.shape
  cases a with
  | none => simp
  | some a => have := ho.lt (id := a.block) (by simp [sid]); simp; omega
 ·obtain ⟨w,hw,rfl⟩ := List.mem_map.1 hv
  have := hx w hw
  simp [Lit.wf,IntKind.min,IntKind.max,IntKind.signed,IntKind.bits]; omega
theorem Rk.ofU {h : Heap} {s : Value} {xs : List Nat} (ho : OwnS h 1 s xs.length (nU xs)) (hx : ∀ v ∈ xs,v < 256) : Rk .u8 h s (xs.map Int.ofNat) := by
 refine Rk.own (by rw [List.length_map]; simpa [kis,nU,Function.comp_def] using ho) ?_ (fun v hv => ?_)
 ·obtain ⟨a,c,rfl⟩ := ho.sl.shape
  cases a with
  | none => simp
  | some a => have := ho.lt (id := a.block) (by simp [sid]); simp; omega
 ·obtain ⟨w,hw,rfl⟩ := List.mem_map.1 hv
  have := hx w hw
  simp [Lit.wf,IntKind.min,IntKind.max,IntKind.signed,IntKind.bits]; omega
theorem CdV.ci {B : Nat} {h : Heap} {v : Value} {r : Cd} (c : CdV B h v r) (h1 : ∀ v ∈ r.ps,v < 9223372036854775808) (h2 : ∀ v ∈ r.ds,v < 256) : CI B h v r.pl (r.ps.map Int.ofNat) (r.ds.map Int.ofNat) := by
 obtain ⟨pv,dv,e,a,b,p,q⟩ := c.ex
 exact ⟨⟨pv,dv,e,Rk.ofI a h1,Rk.ofU b h2,fun id hid => (p id hid).1,q⟩⟩
section
variable {h : Heap} {R : Value → Heap → Prop} {k : List RItem}
end
set_option maxRecDepth 10000
theorem rk_lit {k : IntKind} {h : Heap} {id : Nat} {v : Int} (hb : blk? h id = some ⟨false,[.int k v]⟩) (hv : (Lit.int k v).wf = true) : Rk k h (.slice (some ⟨id,0,none⟩) 1 1) [v] :=
 Rk.own ⟨rfl,.inr ⟨id,rfl,hb⟩⟩ (by simp; exact blk?_lt hb) (fun w hw => by simp at hw; subst hw; exact hv)
theorem lit_sl {h : Heap} {id : Nat} {v : Int} (hb : blk? h id = some ⟨false,[.int .i64 v]⟩) : Sl h 1 (.slice (some ⟨id,0,none⟩) 1 1) [v].length (i64s [v]) := Sl.lit1 hb
set_option maxRecDepth 10000
set_option maxHeartbeats 4000000 in
theorem awake18_c {h : Heap} : Gives 10 [] h (.bool true) := by
 refine Gives.mk fun R0 hR => ?_
 have bZ : blk? (h ++ [some (⟨false,[.int .i64 1]⟩ : Blk),some ⟨false,[.int .u8 192]⟩,some ⟨false,[.int .i64 0,.slice none 0 0,.slice none 0 0]⟩]) (h.length + 2) = some ⟨false,[.int .i64 0,.slice none 0 0,.slice none 0 0]⟩ := by rw [app_add]; rfl
 generalize hG : h ++ [some (⟨false,[.int .i64 1]⟩ : Blk),some ⟨false,[.int .u8 192]⟩,some ⟨false,[.int .i64 1,.slice (some ⟨h.length,0,none⟩) 1 1,.slice (some ⟨h.length + 1,0,none⟩) 1 1]⟩] = G
 have lG : G.length = h.length + 3 := by rw [← hG]; simp
 have kG : ∀ id,id < h.length → blk? G id = blk? h id := fun id hid => by rw [← hG]; exact app_lt hid
 have g0 : blk? G h.length = some ⟨false,[.int .i64 1]⟩ := by rw [← hG,app_len]; rfl
 have g1 : blk? G (h.length + 1) = some ⟨false,[.int .u8 192]⟩ := by rw [← hG,app_add]; rfl
 have g2 : blk? G (h.length + 2) = some ⟨false,[.int .i64 1,.slice (some ⟨h.length,0,none⟩) 1 1,.slice (some ⟨h.length + 1,0,none⟩) 1 1]⟩ := by rw [← hG,app_add]; rfl
 have P1 : Rk .i64 G (.slice (some ⟨h.length,0,none⟩) 1 1) [1] := rk_lit g0 (by decide)
 have D1 : Rk .u8 G (.slice (some ⟨h.length + 1,0,none⟩) 1 1) ([192].map Int.ofNat) := rk_lit g1 (by decide)
 obtain ⟨v1,y1,H1,e1,V1⟩ := decode_c (m := ⟨false,false,false,false,false⟩) (pl := 1) (n := 1) (w := 1) (hh := 1) (o := 0) P1 D1 (by simp) (by simp) (by simp)
 rw [dx1] at e1 V1
 have k1 := V1.low
 have l1 := V1.len
 have P2 : Rk .i64 H1 (.slice (some ⟨h.length,0,none⟩) 1 1) [1] := P1.keep l1 fun id hid _ => k1 id hid
 have D2 : Rk .u8 H1 (.slice (some ⟨h.length + 1,0,none⟩) 1 1) ([192].map Int.ofNat) := D1.keep l1 fun id hid _ => k1 id hid
 have g21 : blk? H1 (h.length + 2) = some ⟨false,[.int .i64 1,.slice (some ⟨h.length,0,none⟩) 1 1,.slice (some ⟨h.length + 1,0,none⟩) 1 1]⟩ := by rw [k1 _ (by omega)]; exact g2
 obtain ⟨v2,y2,H2,e2,V2⟩ := decode_c (m := ⟨false,false,false,false,false⟩) (pl := 1) (n := 0) (w := 1) (hh := 1) (o := 0) P2 D2 (by simp) (by simp) (by simp)
 rw [dx2] at e2 V2
 have k2 := V2.low
 have l2 := V2.len
 generalize hA : H2 ++ [some (⟨false,[.int .i64 0]⟩ : Blk)] = A
 have lA : A.length = H2.length + 1 := by rw [← hA]; simp
 have kA : ∀ id,id < H2.length → blk? A id = blk? H2 id := fun id hid => by rw [← hA]; exact blk?_push_lt hid
 have bA : blk? A H2.length = some ⟨false,[.int .i64 0]⟩ := by rw [← hA]; exact blk?_push_eq
 have PA : Rk .i64 A (.slice (some ⟨H2.length,0,none⟩) 1 1) [0] := rk_lit bA (by decide)
 obtain ⟨H3,e3,k3,l3⟩ := sound_c (m := ⟨false,false,false,false,true⟩) (pl := 1) (n := 1) (w := 1) (hh := 1) (o := 0) (ds := []) PA (Rk.none .u8 A) (by simp) (by simp) (by simp)
 rw [dx3] at e3
 have o1 : OwnS H3 1 v1 [(-1 : Int)].length (i64s [-1]) := V1.o1.of_blk fun id hid hb => by have := V1.o1.lt hid; rw [k3 id (by omega),kA id (by omega),k2 id (by omega)]; exact hb
 have q1 : OwnS H3 1 y1 [(0 : Int)].length (i64s [0]) := V1.o2.of_blk fun id hid hb => by have := V1.o2.lt hid; rw [k3 id (by omega),kA id (by omega),k2 id (by omega)]; exact hb
 have o2 : OwnS H3 1 v2 [(0 : Int)].length (i64s [0]) := V2.o1.of_blk fun id hid hb => by have := V2.o1.lt hid; rw [k3 id (by omega),kA id (by omega)]; exact hb
 have q2 : OwnS H3 1 y2 [(1 : Int)].length (i64s [1]) := V2.o2.of_blk fun id hid hb => by have := V2.o2.lt hid; rw [k3 id (by omega),kA id (by omega)]; exact hb
 have cmp : ∀ (F : Heap) (v : Value) (x : Int),OwnS F 1 v [x].length (i64s [x]) → ∀ R,Ret tab 13 [v,.slice (some ⟨F.length,0,none⟩) 1 1] (F ++ [some ⟨false,[.int .i64 x]⟩]) R = R (.bool true) (F ++ [some ⟨false,[.int .i64 x]⟩]) := by
  intro F v x hv R
  have hv' : OwnS (F ++ [some ⟨false,[.int .i64 x]⟩]) 1 v [x].length (i64s [x]) := hv.of_blk fun id hid hb => by rw [blk?_push_lt (hv.lt hid)]; exact hb
  have := same_18 (R := R) hv'.sl (lit_sl (h := F ++ [some ⟨false,[.int .i64 x]⟩]) (id := F.length) (v := x) blk?_push_eq) (by simp)
  simpa using this
 have push : ∀ (F : Heap) (v : Value) (x y : Int),OwnS F 1 v [x].length (i64s [x]) → OwnS (F ++ [some ⟨false,[.int .i64 y]⟩]) 1 v [x].length (i64s [x]) := fun F v x y hv => hv.of_blk fun id hid hb => by rw [blk?_push_lt (hv.lt hid)]; exact hb
 generalize hF1 : H3 ++ [some (⟨false,[.int .i64 (-1)]⟩ : Blk)] = F1
 have s1 := cmp H3 v1 (-1) o1
 rw [hF1] at s1
 have q1' : OwnS F1 1 y1 [(0 : Int)].length (i64s [0]) := by rw [← hF1]; exact push _ _ _ _ q1
 have o2' : OwnS F1 1 v2 [(0 : Int)].length (i64s [0]) := by rw [← hF1]; exact push _ _ _ _ o2
 have q2' : OwnS F1 1 y2 [(1 : Int)].length (i64s [1]) := by rw [← hF1]; exact push _ _ _ _ q2
 generalize hF2 : F1 ++ [some (⟨false,[.int .i64 0]⟩ : Blk)] = F2
 have s2 := cmp F1 y1 0 q1'
 rw [hF2] at s2
 have o2'' : OwnS F2 1 v2 [(0 : Int)].length (i64s [0]) := by rw [← hF2]; exact push _ _ _ _ o2'
 have q2'' : OwnS F2 1 y2 [(1 : Int)].length (i64s [1]) := by rw [← hF2]; exact push _ _ _ _ q2'
 generalize hF3 : F2 ++ [some (⟨false,[.int .i64 0]⟩ : Blk)] = F3
 have s3 := cmp F2 v2 0 o2''
 rw [hF3] at s3
 have q3 : OwnS F3 1 y2 [(1 : Int)].length (i64s [1]) := by rw [← hF3]; exact push _ _ _ _ q2''
 generalize hF4 : F3 ++ [some (⟨false,[.int .i64 1]⟩ : Blk)] = F4
 have s4 := cmp F3 y2 1 q3
 rw [hF4] at s4
 have lF1 : F1.length = H3.length + 1 := by rw [← hF1]; simp
 have lF2 : F2.length = F1.length + 1 := by rw [← hF2]; simp
 have lF3 : F3.length = F2.length + 1 := by rw [← hF3]; simp
 have lF4 : F4.length = F3.length + 1 := by rw [← hF4]; simp
 have hR' := hR F4 (fun id hid => by rw [← hF4,blk?_push_lt (by omega),← hF3,blk?_push_lt (by omega),← hF2,blk?_push_lt (by omega),← hF1,blk?_push_lt (by omega),k3 id (by omega),kA id (by omega),k2 id (by omega),k1 id (by omega),kG id hid]) (by omega)
 clear hR
 obtain ⟨va1,vc1,hv1⟩ := o1.sl.shape
 obtain ⟨ya1,yc1,hy1⟩ := q1.sl.shape
 obtain ⟨va2,vc2,hv2⟩ := o2.sl.shape
 obtain ⟨ya2,yc2,hy2⟩ := q2.sl.shape
 simp only [MD.val] at e1 e2 e3
 rw [hv1,hy1] at e1
 rw [hv2,hy2] at e2
 rw [hv1] at s1
 rw [hy1] at s2
 rw [hv2] at s3
 rw [hy2] at s4
 simp only [List.length_cons,List.length_nil,Nat.zero_add] at e1 e2 s1 s2 s3 s4
 rw [enter10,show B10 = .seq (nthC 0 B10) (.seq (nthC 1 B10) (.seq (nthC 2 B10) (.seq (nthC 3 B10) (.seq (nthC 4 B10) (tlC 5 B10))))) from rfl]
 generalize hT : tlC 5 B10 = tl
 simp only [nthC,tlC,fstC,B10]
 simp [repL,blk?_push_eq,bZ,hG,g2,e1,g21,e2,hA,e3]
 rw [← hT]
 simp only [nthC,tlC,fstC,B10]
 simp [repL,k_guard,k_guardU,blk?_push_eq,hF1,s1,hF2,s2,hF3,s3,hF4,s4,fin10]
 exact hR'
structure S2Ok (st : S2) : Prop where
 ok : st.a.Ok
 p : st.a.p.length = 19
 bits : ∀ bs,st.raw = some bs → AreBits bs
theorem AE.put_len (a : AE) (c bit : Nat) : a.ds.length ≤ (a.put c bit).ds.length ∧ (a.put c bit).p.length = a.p.length ∧ (a.put c bit).begun = true := by
 have key : ∀ b : AE,b.ds.length = a.ds.length → a.ds.length ≤ b.norm.ds.length := by
  intro b hb
  unfold AE.norm
  split
  ·simp only [List.length_append,List.length_singleton]; omega
  ·omega
 refine ⟨?_,by simp [AE.put],rfl⟩
 unfold AE.put
 by_cases hb : bit = 0
 ·simp only [hb,if_true]; exact key _ rfl
 ·simp only [hb,if_false]; exact key _ (addD_len _ _)
theorem put_st {st : S2} (h : S2Ok st) {s : Int × Nat} (hs : SymOk st.raw s) : S2Ok (st.put s) ∧ st.size ≤ (st.put s).size := by
 obtain ⟨a,raw⟩ := st
 obtain ⟨h1,h2,h3⟩ := h
 obtain ⟨hb,hc⟩ := hs
 cases raw with
 | none =>
  have hc := hc rfl
  simp only at h1 h2
  obtain ⟨q1,q2,q3⟩ := a.put_len s.1.toNat s.2
  refine ⟨⟨AE.put_ok h1 (by omega),by show (a.put _ _).p.length = 19; rw [q2]; exact h2,fun bs hbs => by simp [S2.put] at hbs⟩,?_⟩
  simp only [S2.put,S2.size,q3,if_true]
  split <;> omega
 | some bs =>
  refine ⟨⟨h1,h2,fun bs' hbs => ?_⟩,by simp only [S2.put,S2.size,List.length_append,List.length_singleton]; omega⟩
  simp only [S2.put,Option.some.injEq] at hbs
  subst hbs
  exact (h3 bs rfl).push (by omega)
theorem put_rawN (st : S2) (s : Int × Nat) : ((st.put s).raw = none ↔ st.raw = none) := by unfold S2.put; cases st.raw <;> simp
theorem symOk_raw {r r' : Option (List Nat)} {s : Int × Nat} (h : SymOk r s) (e : r' = none → r = none) : SymOk r' s := ⟨h.1,fun x => h.2 (e x)⟩
theorem puts_st : ∀ (l : List (Int × Nat)) {st : S2},S2Ok st → (∀ s ∈ l,SymOk st.raw s) → S2Ok (st.puts l) ∧ st.size ≤ (st.puts l).size
 | [],st,h,_ => ⟨h,Nat.le_refl _⟩
 | s :: l,st,h,hs => by
  obtain ⟨a,b⟩ := put_st h (hs s (List.mem_cons_self ..))
  obtain ⟨c,d⟩ := puts_st l a fun t ht => symOk_raw (hs t (List.mem_cons_of_mem _ ht)) (put_rawN st s).1
  exact ⟨c,Nat.le_trans b d⟩
theorem back_st {st : S2} (h : S2Ok st) : S2Ok st.back ∧ st.back.size = st.size := by
 refine ⟨⟨⟨base_ok _,h.ok.dig,h.ok.len,h.ok.s1,h.ok.s2,h.ok.top⟩,by simpa [S2.back,AE.setBack,AE.base] using h.p,h.bits⟩,?_⟩
 obtain ⟨a,raw⟩ := st
 cases raw <;> rfl
def asc : Nat → List Nat → Prop
 | _,[] => True
 | z,x :: xs => z ≤ x ∧ asc x xs
theorem segRun_st (m : MD) : ∀ (ls : List (List (Int × Nat))) (n : Nat) (st : S2),S2Ok st → (∀ l ∈ ls,∀ s ∈ l,SymOk st.raw s) → S2Ok (segRun m n ls st).1 ∧ asc st.size (segRun m n ls st).2
 | [],_,st,h,_ => ⟨h,trivial⟩
 | l :: r,n,st,h,hs => by
  have h0 : S2Ok (if m.rst = true ∧ rawOf m n = false then st.back else st) ∧ (if m.rst = true ∧ rawOf m n = false then st.back else st).size = st.size ∧ (if m.rst = true ∧ rawOf m n = false then st.back else st).raw = st.raw := by
   split
   ·exact ⟨(back_st h).1,(back_st h).2,rfl⟩
   ·exact ⟨h,rfl,rfl⟩
  obtain ⟨a0,b0,c0⟩ := h0
  obtain ⟨a1,b1⟩ := puts_st l a0 fun s hx => by rw [c0]; exact hs l (List.mem_cons_self ..) s hx
  obtain ⟨a2,b2⟩ := segRun_st m r (n + 1) _ a1 fun l' hl' s hx => symOk_raw (hs l' (List.mem_cons_of_mem _ hl') s hx) fun x => by rw [← c0]; exact (puts_raw l _).2 x
  exact ⟨a2,by rw [← b0]; exact b1,b2⟩
theorem choose_lt {low size : Nat} (h : low < 4294967296) : (chooseP low size).1 < 4294967296 := by
 unfold chooseP
 repeat' split
 all_goals simp only
 all_goals omega
theorem bytes_st {st : S2} (h : S2Ok st) : ∀ x ∈ st.bytes,x < 256 := by
 obtain ⟨a,raw⟩ := st
 cases raw with
 | none =>
  have hd := h.ok.dig
  have hl := h.ok.len
  have hlt := val_lt (hd.drop (a.ds.length - 4))
  have e : (a.ds.drop (a.ds.length - 4)).length = 4 := by rw [List.length_drop]; simp only at hl; omega
  rw [e] at hlt
  refine trim_dig ?_
  unfold termP
  refine Dig.app ?_ (dig4_dig (choose_lt (by simpa using hlt)))
  split
  ·exact addD_dig _ _
  ·exact hd.take _
 | some bs => exact fun x hx => pack_lt (h.bits bs rfl) x (List.mem_of_mem_take hx)
theorem after_st {st : S2} (h : S2Ok st) : st.after.Ok ∧ st.after.p.length = 19 := by
 obtain ⟨a,raw⟩ := st
 cases raw with
 | none => exact ⟨begin_ok h.ok.ps,h.p⟩
 | some bs => exact ⟨h.ok,h.p⟩
def vgoN : List Nat → Nat → Option Nat
 | [],l => some l
 | x :: xs,l => if x < l then none else vgoN xs x
theorem vgoN_app : ∀ (a b : List Nat) (l : Nat),vgoN (a ++ b) l = (vgoN a l).bind fun r => vgoN b r
 | [],b,l => rfl
 | x :: a,b,l => by
  simp only [List.cons_append,vgoN]
  split
  ·rfl
  ·exact vgoN_app a b x
theorem vgoN_asc {f : Nat → Nat} (hf : ∀ x y,x ≤ y → f x ≤ f y) : ∀ (zs : List Nat) (z : Nat),asc z zs → ∃ r,vgoN (zs.map f) (f z) = some (f r)
 | [],z,_ => ⟨z,rfl⟩
 | x :: xs,z,h => by
  obtain ⟨r,hr⟩ := vgoN_asc hf xs x h.2
  refine ⟨r,?_⟩
  rw [List.map_cons,vgoN,if_neg (by have := hf z x h.1; omega),hr]
theorem asc_take : ∀ (zs : List Nat) (z n : Nat),asc z zs → asc z (zs.take n)
 | [],_,n,h => by simpa using h
 | x :: xs,z,0,h => trivial
 | x :: xs,z,n + 1,h => ⟨h.1,asc_take xs x n h.2⟩
theorem asc_low : ∀ (zs : List Nat) {z z' : Nat},z' ≤ z → asc z zs → asc z' zs
 | [],_,_,_,_ => trivial
 | x :: xs,z,z',h,k => ⟨Nat.le_trans h k.1,k.2⟩
theorem encSegs_st (m : MD) (ls : List (List (Int × Nat))) (hsym : ∀ i (h1 : i < ls.length),∀ s ∈ ls[i],s.2 < 2 ∧ (rawOf m i = false → 0 ≤ s.1 ∧ s.1 < 19)) :
  ∀ (gs : List Nat) (n : Nat) (a : AE) (P D : List Nat),a.Ok → a.p.length = 19 → SegOk m n gs → (∀ c ∈ gs,1 ≤ c) → n + sumL gs ≤ ls.length → vgoN P 0 = some D.length → (∀ x ∈ D,x < 256) →
   vgoN (encSegs m ls gs n a P D).1 0 = some (encSegs m ls gs n a P D).2.length ∧ (∀ x ∈ (encSegs m ls gs n a P D).2,x < 256) ∧ (encSegs m ls gs n a P D).1.length = P.length + sumL gs
 | [],n,a,P,D,_,_,_,_,_,hP,hD => ⟨hP,hD,by simp [encSegs,sumL]⟩
 | c :: cs,n,a,P,D,ha,hp,hso,hc,hn,hP,hD => by
  obtain ⟨hso1,hso2⟩ := hso
  have hc1 := hc c (List.mem_cons_self ..)
  simp only [sumL] at hn
  have hS : S2Ok ⟨a,if rawOf m n = true then some [] else none⟩ := by
   refine ⟨ha,hp,fun bs hbs => ?_⟩
   simp only at hbs
   split at hbs
   ·injection hbs with hbs; subst hbs; intro b hb; cases hb
   ·cases hbs
  have hsy : ∀ l ∈ (ls.drop n).take c,∀ s ∈ l,SymOk (if rawOf m n = true then some [] else none : Option (List Nat)) s := by
   intro l hl s hs
   obtain ⟨j,hj,rfl⟩ := List.getElem_of_mem hl
   have hjc : j < c := by simp at hj; omega
   have hnj : n + j < ls.length := by omega
   have e1 : ((ls.drop n).take c)[j] = ls[n + j] := by simp
   rw [e1] at hs
   obtain ⟨q1,q2⟩ := hsym (n + j) hnj s hs
   refine ⟨q1,fun hx => q2 ?_⟩
   cases hrw : rawOf m n with
   | true => rw [hrw] at hx; simp at hx
   | false => exact hso1 hrw j hjc
  obtain ⟨s1,s2⟩ := segRun_st m _ n _ hS hsy
  have hrl := segRun_len m ((ls.drop n).take c) n ⟨a,if rawOf m n = true then some [] else none⟩
  have hcl : ((ls.drop n).take c).length = c := by rw [List.length_take,List.length_drop]; omega
  rw [hcl] at hrl
  simp only [encSegs]
  generalize segRun m n ((ls.drop n).take c) ⟨a,if rawOf m n = true then some [] else none⟩ = r at *
  obtain ⟨st,zs⟩ := r
  simp only at s1 s2 hrl ⊢
  obtain ⟨t1,t2⟩ := after_st s1
  obtain ⟨q,hq⟩ := vgoN_asc (f := fun z => min (D.length + z) (D ++ st.bytes).length) (fun x y h => by omega) (zs.take (c - 1)) 0 (asc_take _ _ _ (asc_low _ (Nat.zero_le _) s2))
  have e0 : min (D.length + 0) (D ++ st.bytes).length = D.length := by rw [List.length_append]; omega
  simp only [e0] at hq
  have hP' : vgoN (P ++ (zs.take (c - 1)).map (fun z => min (D.length + z) (D ++ st.bytes).length) ++ [(D ++ st.bytes).length]) 0 = some (D ++ st.bytes).length := by
   rw [vgoN_app,vgoN_app,hP]
   simp only [Option.bind_some,hq,vgoN]
   rw [if_neg (by omega)]
  obtain ⟨r1,r2,r3⟩ := encSegs_st m ls hsym cs (n + c) st.after _ (D ++ st.bytes) t1 t2 hso2 (fun x hx => hc x (List.mem_cons_of_mem _ hx)) (by omega) hP' (fun x hx => by
   rcases List.mem_append.1 hx with hx | hx
   ·exact hD x hx
   ·exact bytes_st s1 x hx)
  refine ⟨r1,r2,?_⟩
  rw [r3]
  simp only [List.length_append,List.length_map,List.length_take,List.length_singleton,sumL]
  omega
theorem vgoN_get : ∀ (ps : List Nat) (l r : Nat),vgoN ps l = some r → ∀ x ∈ ps,x ≤ r
 | [],_,_,_,x,hx => by cases hx
 | y :: ps,l,r,h,x,hx => by
  unfold vgoN at h
  split at h
  ·cases h
  ·have key : ∀ (ps : List Nat) (l r : Nat),vgoN ps l = some r → l ≤ r := by
    intro ps
    induction ps with
    | nil => intro l r h; simp [vgoN] at h; omega
    | cons z zs ih => intro l r h; unfold vgoN at h; split at h; cases h; have := ih _ _ h; omega
   rcases List.mem_cons.1 hx with rfl | hx
   ·exact key _ _ _ h
   ·exact vgoN_get ps y r h x hx
theorem encRes_facts {xs : List Int} {w hh o : Int} {m : MD} : ((encRes xs w hh o m).1 ≠ 0 → (encRes xs w hh o m).2 = ⟨0,[],[]⟩) ∧
  ((encRes xs w hh o m).1 = 0 → (symRes xs w hh o m).1 = 0 ∧ planesOf xs ≤ 60 ∧ (encRes xs w hh o m).2.pl = planesOf xs ∧ (encRes xs w hh o m).2.ps.length = 3 * planesOf xs - 2 ∧
   vgoN (encRes xs w hh o m).2.ps 0 = some (encRes xs w hh o m).2.ds.length ∧ (∀ x ∈ (encRes xs w hh o m).2.ds,x < 256) ∧ (encRes xs w hh o m).2.ds.length ≤ 65535) := by
 by_cases h0 : (symRes xs w hh o m).1 = 0
 ·obtain ⟨hp,hl⟩ := symRes_len h0
  obtain ⟨g1,g2,g3⟩ := segs_sum (m := m) (n := (symRes xs w hh o m).2.length) (by omega)
  obtain ⟨r1,r2,r3⟩ := encSegs_st m (symRes xs w hh o m).2 (symRes_sym h0) (segsOf m (symRes xs w hh o m).2.length) 0 (AE.begin (AE.base 19)) [] [] (begin_ok (base_ok 19)) (by simp [AE.begin,AE.base]) (segOk_all m _) (fun c hc => (g3 c hc).1) (by omega) rfl (fun x hx => by cases hx)
  unfold encRes
  simp only [ne_eq,h0,not_true_eq_false,if_false]
  split
  ·exact ⟨fun _ => rfl,fun h => by simp at h⟩
  ·rename_i hb
   refine ⟨fun h => by simp at h,fun _ => ⟨trivial,hp,rfl,?_,r1,r2,by simp only; omega⟩⟩
   simp only
   rw [r3,g1,hl]; simp
 ·have e : encRes xs w hh o m = ((symRes xs w hh o m).1,⟨0,[],[]⟩) := by unfold encRes; simp only [ne_eq,h0,not_false_eq_true,if_true]
  rw [e]
  exact ⟨fun _ => rfl,fun h => absurd h h0⟩
open Go.Sim
open Go.RowKit
theorem bitOf_leA (v : Int) (s : Nat) : bitOf v s ≤ 1 := by unfold bitOf; omega
def cov : Nat → List (Int × Nat) → Nat
 | _,[] => 0
 | s,p :: l =>
  if s = 1 then 2 * p.2 + cov 2 l
  else if s = 2 then p.2 + 1 + cov 0 l
  else if p.1 ≤ 8 ∨ 14 ≤ p.1 ∧ p.1 ≤ 16 then 1 + cov 0 l
  else if p.1 = 17 then (if p.2 = 0 then 4 + cov 0 l else cov 1 l)
  else cov 0 l
def fin : Nat → List (Int × Nat) → Nat
 | s,[] => s
 | s,p :: l =>
  if s = 1 then fin 2 l
  else if s = 2 then fin 0 l
  else if p.1 ≤ 8 ∨ 14 ≤ p.1 ∧ p.1 ≤ 16 then fin 0 l
  else if p.1 = 17 then (if p.2 = 0 then fin 0 l else fin 1 l)
  else fin 0 l
theorem cov_append : ∀ (a b : List (Int × Nat)) (s : Nat),cov s (a ++ b) = cov s a + cov (fin s a) b ∧ fin s (a ++ b) = fin (fin s a) b
 | [],b,s => by simp [cov,fin]
 | p :: a,b,s => by
  have i0 := cov_append a b 0
  have i1 := cov_append a b 1
  have i2 := cov_append a b 2
  rw [List.cons_append,cov,cov,fin,fin]
  split
  ·exact ⟨by rw [i2.1]; omega,i2.2⟩
  ·split
   ·exact ⟨by rw [i0.1]; omega,i0.2⟩
   ·split
    ·exact ⟨by rw [i0.1]; omega,i0.2⟩
    ·split
     ·split
      ·exact ⟨by rw [i0.1]; omega,i0.2⟩
      ·exact i1
     ·exact i0
structure Adds (σ τ : ES) (n : Nat) : Prop where
 ex : ∃ l,τ.out = σ.out ++ l ∧ fin 0 l = 0 ∧ cov 0 l = n
theorem Adds.refl (σ : ES) : Adds σ σ 0 := ⟨[],by simp,rfl,rfl⟩
theorem Adds.trans {σ τ υ : ES} {n m : Nat} (h : Adds σ τ n) (k : Adds τ υ m) : Adds σ υ (n + m) := by
 obtain ⟨l,h1,h2,h3⟩ := h.ex
 obtain ⟨l',k1,k2,k3⟩ := k.ex
 have := cov_append l l' 0
 rw [h2] at this
 exact ⟨l ++ l',by rw [k1,h1,List.append_assoc],by rw [this.2,k2],by rw [this.1,h3,k3]⟩
theorem Adds.map {σ τ : ES} {n : Nat} (h : Adds σ τ n) (x y : Int) (f : Cell → Cell) : Adds σ (τ.map x y f) n := ⟨h.ex⟩
def un (b : BS) (p : Int × Int) : Nat := if (b.get p.1 p.2).t = true then 0 else 1
def TSame (σ τ : ES) : Prop := ∀ x y,(τ.b.get x y).t = (σ.b.get x y).t
theorem TSame.refl (σ : ES) : TSame σ σ := fun _ _ => rfl
theorem TSame.trans {σ τ υ : ES} (h : TSame σ τ) (k : TSame τ υ) : TSame σ υ := fun x y => (k x y).trans (h x y)
def Adone (b : BS) (p : Int × Int) : Prop := (b.get p.1 p.2).s = true → (b.get p.1 p.2).t = true
def SOut (σ τ : ES) (x lo hi : Int) : Prop := ∀ x' y',(x' ≠ x ∨ y' < lo ∨ hi ≤ y') → (τ.b.get x' y').s = (σ.b.get x' y').s
theorem SOut.refl (σ : ES) (x lo hi : Int) : SOut σ σ x lo hi := fun _ _ _ => rfl
theorem SOut.trans {σ τ υ : ES} {x lo hi : Int} (h : SOut σ τ x lo hi) (k : SOut τ υ x lo hi) : SOut σ υ x lo hi := fun x' y' ho => (k x' y' ho).trans (h x' y' ho)
theorem SOut.mono {σ τ : ES} {x lo hi lo' hi' : Int} (h : SOut σ τ x lo hi) (h1 : lo' ≤ lo) (h2 : hi ≤ hi') : SOut σ τ x lo' hi' := fun x' y' ho => h x' y' (by omega)
theorem quietFrom_facts {b : BS} {x : Int} {q : Bool} : ∀ {n : Nat} {y : Int},quietFrom b x y q n = true → ∀ j : Nat,j < n → (b.get x (y + j)).s = false ∧ (b.get x (y + j)).t = false
 | 0,_,_,j,hj => by omega
 | n + 1,y,h,j,hj => by
  simp only [quietFrom,still,Bool.and_eq_true,Bool.not_eq_true'] at h
  cases j with
  | zero => simpa using h.1.1
  | succ j =>
   have := quietFrom_facts h.2 j (by omega)
   rw [show y + ((j + 1 : Nat) : Int) = y + 1 + j by omega]; exact this
theorem clear_facts : ∀ (l : List (Int × Int)) {σ : ES},σ.b.Good → AllIn σ.b l →
  (∀ p ∈ l,((σ.clear l).b.get p.1 p.2).t = false) ∧ (∀ p : Int × Int,(σ.b.get p.1 p.2).t = false → ((σ.clear l).b.get p.1 p.2).t = false) ∧ (σ.clear l).out = σ.out
 | [],σ,_,_ => ⟨fun p hp => (by cases hp),fun p hp => hp,rfl⟩
 | p :: l,σ,hg,ha => by
  have hi := ha p (by simp)
  have hl := le_map hg hi (kv_touch false)
  obtain ⟨b1,b2,b3⟩ := clear_facts l (σ := σ.map p.1 p.2 (touch false)) hl.good (AllIn.le (fun q hq => ha q (by simp [hq])) hl)
  have hgt : ∀ x y,(σ.map p.1 p.2 (touch false)).b.get x y = if x = p.1 ∧ y = p.2 then touch false (σ.b.get p.1 p.2) else σ.b.get x y := fun x y => BS.get_upd hg.ok hi _ x y
  refine ⟨fun q hq => ?_,fun q hq => ?_,b3⟩
  ·simp only [List.mem_cons] at hq
   rcases hq with rfl | hq
   ·exact b2 q (by rw [hgt,if_pos ⟨rfl,rfl⟩]; rfl)
   ·exact b1 q hq
  ·refine b2 q ?_
   rw [hgt]
   split
   ·rfl
   ·exact hq
theorem mem_colPts : ∀ {n : Nat} {x y : Int} {p : Int × Int},p ∈ colPts x y n → p.1 = x ∧ y ≤ p.2 ∧ p.2 < y + n
 | 0,x,y,p,h => by simp [colPts] at h
 | n + 1,x,y,p,h => by
  simp only [colPts,List.mem_cons] at h
  rcases h with rfl | h
  ·exact ⟨rfl,by simp only; omega,by simp only; omega⟩
  ·obtain ⟨a,b,c⟩ := mem_colPts h
   exact ⟨a,by omega,by omega⟩
theorem nodup_colPts : ∀ (n : Nat) (x y : Int),(colPts x y n).Nodup
 | 0,x,y => by simp [colPts]
 | n + 1,x,y => by
  rw [colPts,List.nodup_cons]
  exact ⟨fun h => by have := mem_colPts h; simp only at this; omega,nodup_colPts n x (y + 1)⟩
theorem mem_stripePts {h : Nat} : ∀ {n : Nat} {x top : Int} {p : Int × Int},p ∈ stripePts h x top n → x ≤ p.1 ∧ p.1 < x + n ∧ top ≤ p.2 ∧ p.2 < top + 4
 | 0,x,y,p,hp => by simp [stripePts] at hp
 | n + 1,x,top,p,hp => by
  simp only [stripePts,List.mem_append] at hp
  rcases hp with hp | hp
  ·have := mem_colPts hp; omega
  ·have := mem_stripePts hp; omega
theorem nodup_stripePts {h : Nat} : ∀ (n : Nat) (x top : Int),(stripePts h x top n).Nodup
 | 0,x,y => by simp [stripePts]
 | n + 1,x,top => by
  rw [stripePts,List.nodup_append]
  refine ⟨nodup_colPts _ x top,nodup_stripePts n (x + 1) top,fun a ha b hb e => ?_⟩
  have h1 := mem_colPts ha
  have h2 := mem_stripePts hb
  rw [e] at h1
  omega
theorem mem_scanPts {w h : Nat} : ∀ {n : Nat} {top : Int} {p : Int × Int},p ∈ scanPts w h top n → top ≤ p.2
 | 0,y,p,hp => by simp [scanPts] at hp
 | n + 1,top,p,hp => by
  simp only [scanPts,List.mem_append] at hp
  rcases hp with hp | hp
  ·exact (mem_stripePts hp).2.2.1
  ·have := mem_scanPts hp; omega
theorem nodup_scanPts {w h : Nat} : ∀ (n : Nat) (top : Int),(scanPts w h top n).Nodup
 | 0,y => by simp [scanPts]
 | n + 1,top => by
  rw [scanPts,List.nodup_append]
  refine ⟨nodup_stripePts _ 0 top,nodup_scanPts n (top + 4),fun a ha b hb e => ?_⟩
  have h1 := mem_stripePts ha
  have h2 := mem_scanPts hb
  rw [e] at h1
  omega
theorem colPts_mem : ∀ {n : Nat} {x y y' : Int},y ≤ y' → y' < y + n → (x,y') ∈ colPts x y n
 | 0,x,y,y',h1,h2 => by omega
 | n + 1,x,y,y',h1,h2 => by
  rw [colPts,List.mem_cons]
  by_cases h : y' = y
  ·exact .inl (by rw [h])
  ·exact .inr (colPts_mem (by omega) (by omega))
theorem stripePts_mem {h : Nat} : ∀ {n : Nat} {x x' top y : Int},x ≤ x' → x' < x + n → top ≤ y → y < top + 4 → y < h → (x',y) ∈ stripePts h x top n
 | 0,x,x',top,y,h1,h2,h3,h4,h5 => by omega
 | n + 1,x,x',top,y,h1,h2,h3,h4,h5 => by
  rw [stripePts,List.mem_append]
  by_cases hx : x' = x
  ·subst hx; exact .inl (colPts_mem h3 (by omega))
  ·exact .inr (stripePts_mem (by omega) (by omega) h3 h4 h5)
theorem scanPts_mem {w h : Nat} : ∀ {n : Nat} {x y top : Int},0 ≤ x → x < w → top ≤ y → y < top + 4 * n → y < h → (x,y) ∈ scanPts w h top n
 | 0,x,y,top,h1,h2,h3,h4,h5 => by omega
 | n + 1,x,y,top,h1,h2,h3,h4,h5 => by
  rw [scanPts,List.mem_append]
  by_cases hy : y < top + 4
  ·exact .inl (stripePts_mem h1 (by omega) h3 hy h5)
  ·exact .inr (scanPts_mem h1 h2 (by omega) (by omega) h5)
theorem scan_mem {w h : Nat} {x y : Int} (h1 : 0 ≤ x) (h2 : x < w) (h3 : 0 ≤ y) (h4 : y < h) : (x,y) ∈ scan w h :=
 scanPts_mem h1 h2 h3 (by unfold stripesOf; omega) h4
theorem kind_next (k : Nat) : (kindOf k = 0 ∧ kindOf (k + 1) = 1) ∨ (kindOf k = 1 ∧ kindOf (k + 1) = 2) ∨ (kindOf k = 2 ∧ kindOf (k + 1) = 0) := by
 unfold kindOf
 split <;> simp <;> omega
theorem scan_nodup (w h : Nat) : (scan w h).Nodup := nodup_scanPts _ 0
def cutN (k n : Nat) : Nat := n / 2 ^ k * 2 ^ k
def cutv (k : Nat) (v : Int) : Int := if v < 0 then -(cutN k v.natAbs : Int) else (cutN k v.natAbs : Int)
theorem cutN_le (k n : Nat) : cutN k n ≤ n := Nat.div_mul_le_self n _
theorem cutN_ge {k s n : Nat} (hk : k ≤ s) (h : 2 ^ s ≤ n) : 2 ^ s ≤ cutN k n := by
 unfold cutN
 have h1 : 2 ^ s = 2 ^ (s - k) * 2 ^ k := by rw [← Nat.pow_add]; congr 1; omega
 rw [h1]
 refine Nat.mul_le_mul_right _ ?_
 rw [Nat.le_div_iff_mul_le (Nat.two_pow_pos k),← h1]; exact h
theorem natAbs_cutv (k : Nat) (v : Int) : (cutv k v).natAbs = cutN k v.natAbs := by unfold cutv; split <;> omega
theorem cutv_neg {k : Nat} {v : Int} (h : 2 ^ k ≤ v.natAbs) : cutv k v < 0 ↔ v < 0 := by
 have := cutN_ge (Nat.le_refl k) h
 have hp := Nat.two_pow_pos k
 unfold cutv
 split <;> omega
structure RBA (k : Nat) (b b' : BS) : Prop where
 w : b'.w = b.w
 h : b'.h = b.h
 s : ∀ x y,(b'.get x y).s = (b.get x y).s
 t : ∀ x y,(b'.get x y).t = (b.get x y).t
 r : ∀ x y,(b'.get x y).r = (b.get x y).r
 v : ∀ x y,(b'.get x y).v = cutv k (b.get x y).v
 big : ∀ x y,(b.get x y).s = true → 2 ^ k ≤ (b.get x y).v.natAbs
theorem RBA.inb {k : Nat} {b b' : BS} (h : RBA k b b') {x y : Int} (hi : b.inb x y) : b'.inb x y := by
 obtain ⟨a1,a2,a3,a4⟩ := hi
 exact ⟨a1,by rw [h.w]; exact a2,a3,by rw [h.h]; exact a4⟩
section
variable {k : Nat} {P : PP} {σ τ : ES}
theorem first_bit {b : BS} {s : Nat} {x : Int} : ∀ {n : Nat} {y : Int} {j : Nat},firstBit b s x y n = some j → bitOf (b.get x (y + j)).v s = 1
 | 0,_,_,h => by simp [firstBit] at h
 | n + 1,y,j,h => by
  simp only [firstBit] at h
  split at h
  ·injection h with h; subst h; simpa using (by assumption)
  ·rw [Option.map_eq_some_iff] at h
   obtain ⟨i,hi,rfl⟩ := h
   have := first_bit hi
   rw [show y + ((i + 1 : Nat) : Int) = y + 1 + i by omega]; exact this
end
theorem passesOf_take (m : MD) (planes o : Nat) : ∀ (n c k : Nat) (b : BS),n ≤ c → (passesOf m planes o c k b).take n = passesOf m planes o n k b
 | 0,c,k,b,_ => by simp [passesOf]
 | n + 1,0,k,b,h => by omega
 | n + 1,c + 1,k,b,h => by
  rw [passesOf,List.take_succ_cons,passesOf_take m planes o n c (k + 1) _ (by omega)]; rfl
def symI (p : Int × Nat) : Int × Int := (p.1,(p.2 : Int))
def Plays {α : Type} (σ τ : ES) (t : Tr α) (a : α) : Prop := ∃ new,τ.out = σ.out ++ new ∧ ∀ l,t.play (new.map symI ++ l) = some (a,l)
theorem Plays.ret {α : Type} {σ τ : ES} (h : τ.out = σ.out) (a : α) : Plays σ τ (.ret a) a := ⟨[],by simp [h],fun l => rfl⟩
theorem Plays.bind {α β : Type} {σ τ υ : ES} {t : Tr α} {a : α} {f : α → Tr β} {b : β} (h : Plays σ τ t a) (k : Plays τ υ (f a) b) : Plays σ υ (t.bind f) b := by
 obtain ⟨n,h1,h2⟩ := h
 obtain ⟨m,k1,k2⟩ := k
 refine ⟨n ++ m,by rw [k1,h1,List.append_assoc],fun l => ?_⟩
 rw [List.map_append,List.append_assoc,Tr.play_bind,h2]
 exact k2 l
theorem Plays.ask {α : Type} {P : PP} {σ τ : ES} {c : Int} {n : Nat} (hn : n ≤ 1) {k : Bool → Tr α} {a : α} (h : Plays (σ.emit P c n) τ (k (n == 1)) a) : Plays σ τ (.ask (P.cx c) k) a := by
 obtain ⟨m,h1,h2⟩ := h
 refine ⟨(P.cx c,n) :: m,by rw [h1]; simp [ES.emit,PP.cx],fun l => ?_⟩
 have hn' : (n : Int) = 0 ∨ (n : Int) = 1 := by omega
 have hb : ((n : Int) == 1) = (n == 1) := by
  rcases hn' with h | h
  ·obtain rfl : n = 0 := by omega
   rfl
  ·obtain rfl : n = 1 := by omega
   rfl
 rw [List.map_cons,List.cons_append,Tr.play,if_pos ⟨rfl,hn'⟩]
 show (k ((n : Int) == 1)).play _ = _
 rw [hb]
 exact h2 l
theorem Plays.out {α : Type} {σ τ τ' : ES} {t : Tr α} {a : α} (h : Plays σ τ t a) (ho : τ'.out = τ.out) : Plays σ τ' t a := by
 obtain ⟨n,h1,h2⟩ := h
 exact ⟨n,by rw [ho,h1],h2⟩
structure CR (m : Nat) (e d : Cell) : Prop where
 s : d.s = e.s
 t : d.t = e.t
 r : d.r = e.r
 v : d.v = cutv m e.v
 sg : e.s = true ↔ 2 ^ m ≤ e.v.natAbs
theorem cutN_zero {m n : Nat} (h : n < 2 ^ m) : cutN m n = 0 := by unfold cutN; rw [Nat.div_eq_of_lt h]; simp
theorem cutv_zero {m : Nat} {v : Int} (h : v.natAbs < 2 ^ m) : cutv m v = 0 := by unfold cutv; rw [cutN_zero h]; simp
theorem CR.zero (m : Nat) : CR m .zero .zero := by
 have h : (0 : Int).natAbs < 2 ^ m := Nat.two_pow_pos m
 exact ⟨rfl,rfl,rfl,(cutv_zero h).symm,⟨fun e => by simp [Cell.zero] at e,fun e => absurd e (by simp [Cell.zero])⟩⟩
theorem cutN_succ (s n : Nat) : cutN s n = cutN (s + 1) n + n / 2 ^ s % 2 * 2 ^ s := by
 unfold cutN
 have h1 : n / 2 ^ (s + 1) = n / 2 ^ s / 2 := by rw [Nat.pow_succ,Nat.div_div_eq_div_mul]
 rw [h1,Nat.pow_succ]
 generalize n / 2 ^ s = q
 have h2 : q = q / 2 * 2 + q % 2 := by omega
 have h3 : q / 2 * (2 ^ s * 2) = q / 2 * 2 * 2 ^ s := by rw [Nat.mul_comm (2 ^ s) 2,Nat.mul_assoc]
 rw [h3,← Nat.add_mul,← h2]
theorem lt_succ_bit {s n : Nat} (h : n < 2 ^ (s + 1)) : n / 2 ^ s % 2 = n / 2 ^ s ∧ (n / 2 ^ s = 1 ↔ 2 ^ s ≤ n) := by
 have hp := Nat.two_pow_pos s
 have h2 : n / 2 ^ s < 2 := by rw [Nat.div_lt_iff_lt_mul hp,Nat.mul_comm]; rw [Nat.pow_succ] at h; omega
 refine ⟨Nat.mod_eq_of_lt h2,fun e => ?_,fun e => ?_⟩
 ·apply Nat.le_of_not_lt
  intro hlt
  rw [Nat.div_eq_of_lt hlt] at e
  omega
 ·have := Nat.div_le_div_right (c := 2 ^ s) e
  rw [Nat.div_self hp] at this
  omega
structure RV (M : Int → Int → Nat) (e d : BS) : Prop where
 w : d.w = e.w
 h : d.h = e.h
 c : ∀ x y,CR (M x y) (e.get x y) (d.get x y)
theorem RV.inb {M : Int → Int → Nat} {e d : BS} (h : RV M e d) {x y : Int} (hi : e.inb x y) : d.inb x y := by
 obtain ⟨a1,a2,a3,a4⟩ := hi
 exact ⟨a1,by rw [h.w]; exact a2,a3,by rw [h.h]; exact a4⟩
theorem RV.out {M : Int → Int → Nat} {e d : BS} (h : RV M e d) {x y : Int} (hi : ¬ e.inb x y) (m : Nat) : CR m (e.get x y) (d.get x y) := by
 rw [BS.get_out hi,BS.get_out (fun k => hi ⟨k.1,by have := k.2.1; rwa [h.w] at this,k.2.2.1,by have := k.2.2.2; rwa [h.h] at this⟩)]
 exact CR.zero m
theorem RV.congr {M M' : Int → Int → Nat} {e d : BS} (h : RV M e d) (hm : ∀ x y,e.inb x y → M' x y = M x y) : RV M' e d := by
 refine ⟨h.w,h.h,fun x y => ?_⟩
 by_cases hi : e.inb x y
 ·rw [hm x y hi]; exact h.c x y
 ·exact h.out hi _
section
variable {M : Int → Int → Nat} {e d : BS}
theorem rv_one (h : RV M e d) (x y : Int) : one d x y = one e x y := by unfold one; rw [(h.c x y).s]
theorem rv_nb (h : RV M e d) (x y : Int) (q : Bool) : nbH d x y = nbH e x y ∧ nbV d x y q = nbV e x y q ∧ nbD d x y q = nbD e x y q := by
 unfold nbH nbV nbD
 simp only [rv_one h]
 exact ⟨trivial,trivial,trivial⟩
theorem rv_near (h : RV M e d) (x y : Int) (q : Bool) : near d x y q = near e x y q := by
 obtain ⟨a1,a2,a3⟩ := rv_nb h x y q
 unfold near; rw [a1,a2,a3]
theorem rv_sgn (h : RV M e d) (x y : Int) : sgn d x y = sgn e x y := by
 have hc := h.c x y
 unfold sgn
 rw [hc.s]
 split
 ·rename_i hs
  rw [hc.v]
  have := cutv_neg (hc.sg.1 hs)
  by_cases hv : (e.get x y).v < 0
  ·rw [if_pos hv,if_pos (this.2 hv)]
  ·rw [if_neg hv,if_neg (fun e => hv (this.1 e))]
 ·rfl
theorem rv_sg (h : RV M e d) (x y : Int) (q : Bool) : sgH d x y = sgH e x y ∧ sgV d x y q = sgV e x y q := by
 unfold sgH sgV
 simp only [rv_sgn h]
 exact ⟨trivial,trivial⟩
theorem rv_ctx (h : RV M e d) (P : PP) (x y : Int) : ctxOf P d x y = ctxOf P e x y := by
 obtain ⟨n1,n2,n3⟩ := rv_nb h x y P.cz
 unfold ctxOf; rw [n1,n2,n3]
theorem rv_quietFrom (h : RV M e d) (x : Int) (q : Bool) : ∀ (n : Nat) (y : Int),quietFrom d x y q n = quietFrom e x y q n
 | 0,_ => rfl
 | n + 1,y => by
  have hc := h.c x y
  rw [quietFrom,quietFrom,rv_quietFrom h x q n,still,still,hc.s,hc.t,rv_near h]
theorem rv_quiet (h : RV M e d) (x y : Int) (q : Bool) : quiet d x y q = quiet e x y q := by
 unfold quiet; rw [rv_quietFrom h,h.h]
theorem rv_upd (h : RV M e d) (he : e.Ok) (hd : d.Ok) {x y : Int} (hi : e.inb x y) {f g : Cell → Cell} {m : Nat} (hc : CR m (f (e.get x y)) (g (d.get x y))) :
  RV (fun x' y' => if x' = x ∧ y' = y then m else M x' y') (e.upd x y f) (d.upd x y g) := by
 refine ⟨h.w,h.h,fun x' y' => ?_⟩
 rw [BS.get_upd he hi,BS.get_upd hd (h.inb hi)]
 by_cases hx : x' = x ∧ y' = y
 ·rw [if_pos hx,if_pos hx,if_pos hx]; exact hc
 ·rw [if_neg hx,if_neg hx,if_neg hx]; exact h.c x' y'
end
theorem neg_cutv {m : Nat} {v : Int} : cutv m v = if v < 0 then -(cutN m v.natAbs : Int) else (cutN m v.natAbs : Int) := rfl
theorem pw_eq (s : Nat) : pw s = ((2 ^ s : Nat) : Int) := rfl
theorem AllIn.tail_le {b b' : BS} {p : Int × Int} {l : List (Int × Int)} (h : AllIn b (p :: l)) (hw : b'.w = b.w) (hh : b'.h = b.h) : AllIn b' l := fun q hq => by
 obtain ⟨a1,a2,a3,a4⟩ := h q (by simp [hq])
 exact ⟨a1,by rw [hw]; exact a2,a3,by rw [hh]; exact a4⟩
structure Stt {α : Type} (σ τ : ES) (t : Tr α) (a : α) (M : Int → Int → Nat) (d : BS) : Prop where
 pl : Plays σ τ t a
 rv : RV M τ.b d
 ge : τ.b.Good
 gd : d.Good
 ew : τ.b.w = σ.b.w
 eh : τ.b.h = σ.b.h
section
variable {P : PP} (hp : P.Ok) {M : Int → Int → Nat} {σ : ES} {d : BS}
include hp
theorem sign_st (h : RV M σ.b d) (ge : σ.b.Good) (gd : d.Good) {x y : Int} (hi : σ.b.inb x y) (hm : M x y = P.s + 1) (hs : (σ.b.get x y).s = false) (hb : bitOf (σ.b.get x y).v P.s = 1) :
  ∃ d',Stt σ (σ.sign P x y) (dsign P d x y) d' (fun x' y' => if x' = x ∧ y' = y then P.s else M x' y') d' ∧ (∀ x' y',((σ.sign P x y).b.get x' y').t = (σ.b.get x' y').t) ∧
   (∀ x' y',¬ (x' = x ∧ y' = y) → (σ.sign P x y).b.get x' y' = σ.b.get x' y') := by
 have hc := h.c x y
 rw [hm] at hc
 have hlt : (σ.b.get x y).v.natAbs < 2 ^ (P.s + 1) := by
  apply Nat.lt_of_not_le
  intro hle
  have := hc.sg.2 hle
  rw [hs] at this; cases this
 obtain ⟨b1,b2⟩ := lt_succ_bit hlt
 have hbit : bitOf (σ.b.get x y).v P.s = (σ.b.get x y).v.natAbs / 2 ^ P.s := b1
 have hbig : 2 ^ P.s ≤ (σ.b.get x y).v.natAbs := b2.1 (by rw [← hbit]; exact hb)
 obtain ⟨s1,s2⟩ := rv_sg h x y P.cz
 have hsb : signBit P σ.b x y ≤ 1 := by unfold signBit; omega
 have hcut : cutN P.s (σ.b.get x y).v.natAbs = 2 ^ P.s := by unfold cutN; rw [← hbit,hb]; omega
 have hval : dval P d x y (signBit P σ.b x y == 1) = cutv P.s (σ.b.get x y).v := by
  unfold dval dflip signBit
  rw [s1,s2,neg_cutv,hcut,pw_eq]
  have hf : signFlip (sgH σ.b x y) (sgV σ.b x y P.cz) ≤ 1 := by unfold signFlip; split <;> omega
  generalize signFlip (sgH σ.b x y) (sgV σ.b x y P.cz) = fl at *
  have hf' : fl = 0 ∨ fl = 1 := by omega
  unfold negOf
  by_cases hv : (σ.b.get x y).v < 0
  ·rw [if_pos hv,if_pos hv]
   cases P.rw <;> rcases hf' with rfl | rfl <;> simp
  ·rw [if_neg hv,if_neg hv]
   cases P.rw <;> rcases hf' with rfl | rfl <;> simp
 refine ⟨dset P d x y (signBit P σ.b x y == 1),⟨?_,?_,?_,?_,rfl,rfl⟩,?_,?_⟩
 ·unfold dsign
  rw [s1,s2]
  refine Plays.ask hsb ?_
  exact Plays.ret rfl _
 ·show RV _ (σ.b.upd x y mark) _
  have hu : RV (fun x' y' => if x' = x ∧ y' = y then P.s else M x' y') (σ.b.upd x y mark) (d.upd x y fun c => mark (putV (dval P d x y (signBit P σ.b x y == 1)) c)) := by
   refine rv_upd h ge.ok gd.ok hi ⟨rfl,hc.t,hc.r,?_,?_⟩
   ·exact hval
   ·exact ⟨fun _ => hbig,fun _ => rfl⟩
  have e : dset P d x y (signBit P σ.b x y == 1) = d.upd x y fun c => mark (putV (dval P d x y (signBit P σ.b x y == 1)) c) := by
   unfold dset
   have hi' := h.inb hi
   have g1 := BS.get_upd gd.ok hi' (putV (dval P d x y (signBit P σ.b x y == 1))) x y
   rw [if_pos ⟨rfl,rfl⟩] at g1
   unfold BS.upd at g1 ⊢
   rw [g1]
   simp [BS.idx,List.set_set]
  rw [e]; exact hu
 ·exact ge.upd hi kv_mark
 ·exact (le_dset hp gd (h.inb hi) _).good
 ·intro x' y'
  show ((σ.b.upd x y mark).get x' y').t = _
  rw [BS.get_upd ge.ok hi]
  split
  ·rename_i hx; obtain ⟨rfl,rfl⟩ := hx; rfl
  ·rfl
 ·intro x' y' hx
  show (σ.b.upd x y mark).get x' y' = _
  rw [BS.get_upd ge.ok hi,if_neg hx]
omit hp in
theorem lt_of_s {m : Nat} {e d : Cell} (hc : CR m e d) (hs : e.s = false) : e.v.natAbs < 2 ^ m := by
 apply Nat.lt_of_not_le
 intro hle
 have := hc.sg.2 hle
 rw [hs] at this; cases this
omit hp in
theorem cr_zero {s : Nat} {e d : Cell} (hc : CR (s + 1) e d) (hs : e.s = false) (hb : bitOf e.v s = 0) : CR s e d := by
 have hlt := lt_of_s hc hs
 obtain ⟨b1,b2⟩ := lt_succ_bit hlt
 have hbit : bitOf e.v s = e.v.natAbs / 2 ^ s := b1
 have hsm : e.v.natAbs < 2 ^ s := by
  apply Nat.lt_of_not_le
  intro hle
  have := b2.2 hle
  omega
 refine ⟨hc.s,hc.t,hc.r,?_,?_⟩
 ·rw [hc.v,cutv_zero hlt,cutv_zero hsm]
 ·rw [hs]
  exact ⟨fun e => (by cases e),fun e => absurd e (by omega)⟩
theorem code_st (h : RV M σ.b d) (ge : σ.b.Good) (gd : d.Good) {x y : Int} (hi : σ.b.inb x y) (hm : M x y = P.s + 1) (hs : (σ.b.get x y).s = false) :
  ∃ d',Stt σ (σ.code P x y) (dcode P d x y) d' (fun x' y' => if x' = x ∧ y' = y then P.s else M x' y') d' ∧ (∀ x' y',((σ.code P x y).b.get x' y').t = (σ.b.get x' y').t) ∧
   (∀ x' y',¬ (x' = x ∧ y' = y) → (σ.code P x y).b.get x' y' = σ.b.get x' y') := by
 have hc := h.c x y
 rw [hm] at hc
 unfold ES.code dcode
 by_cases hb : bitOf (σ.b.get x y).v P.s = 1
 ·rw [if_pos hb]
  obtain ⟨d',st,c1,c2⟩ := sign_st (σ := σ.emit P (ctxOf P σ.b x y) (bitOf (σ.b.get x y).v P.s)) hp h ge gd hi hm hs hb
  refine ⟨d',⟨?_,st.rv,st.ge,st.gd,st.ew,st.eh⟩,c1,c2⟩
  rw [rv_ctx h]
  refine Plays.ask (n := bitOf (σ.b.get x y).v P.s) (bitOf_leA _ _) ?_
  have e : (bitOf (σ.b.get x y).v P.s == 1) = true := by rw [hb]; rfl
  rw [e]
  simp only [if_true]
  exact st.pl
 ·have hb0 : bitOf (σ.b.get x y).v P.s = 0 := by unfold bitOf at *; omega
  rw [if_neg hb]
  refine ⟨d,⟨?_,⟨h.w,h.h,fun x' y' => ?_⟩,ge,gd,rfl,rfl⟩,fun _ _ => rfl,fun _ _ _ => rfl⟩
  ·rw [rv_ctx h]
   refine Plays.ask (n := bitOf (σ.b.get x y).v P.s) (bitOf_leA _ _) ?_
   have e : (bitOf (σ.b.get x y).v P.s == 1) = false := by rw [hb0]; rfl
   rw [e]
   exact Plays.ret rfl _
  ·show CR _ (σ.b.get x' y') _
   by_cases hx : x' = x ∧ y' = y
   ·rw [if_pos hx]
    obtain ⟨rfl,rfl⟩ := hx
    exact cr_zero hc hs hb0
   ·rw [if_neg hx]; exact h.c x' y'
def Mt (s : Nat) (e : BS) (x y : Int) : Nat := if (e.get x y).t = true then s else s + 1
omit hp in
theorem touch_st {σ' : ES} {d' : BS} {M' : Int → Int → Nat} (h : RV M' σ'.b d') (ge : σ'.b.Good) (gd : d'.Good) {x y : Int} (hi : σ'.b.inb x y) (f : Cell → Cell) (hv : ∀ c,(f c).v = c.v) (hs : ∀ c,(f c).s = c.s) (ht : ∀ c c' : Cell,c'.t = c.t → (f c').t = (f c).t)
  (hr : ∀ c c' : Cell,c'.r = c.r → (f c').r = (f c).r) : RV M' (σ'.b.upd x y f) (d'.upd x y f) := by
 have hc := h.c x y
 have := rv_upd (m := M' x y) h ge.ok gd.ok hi (f := f) (g := f) ⟨by rw [hs,hs]; exact hc.s,ht _ _ hc.t,hr _ _ hc.r,by rw [hv,hv]; exact hc.v,by rw [hs,hv]; exact hc.sg⟩
 refine this.congr fun x' y' _ => ?_
 split
 ·rename_i e; obtain ⟨rfl,rfl⟩ := e; rfl
 ·rfl
theorem sig1_st (h : RV (Mt P.s σ.b) σ.b d) (ge : σ.b.Good) (gd : d.Good) {x y : Int} (hi : σ.b.inb x y) (ht : (σ.b.get x y).t = false) :
  ∃ d',Stt σ (σ.sig1 P x y) (dsig1 P d x y) d' (Mt P.s (σ.sig1 P x y).b) d' ∧ (∀ x' y',¬ (x' = x ∧ y' = y) → ((σ.sig1 P x y).b.get x' y').t = (σ.b.get x' y').t) := by
 have hc := h.c x y
 unfold ES.sig1 dsig1
 rw [hc.s,rv_near h]
 split
 ·rename_i hs
  obtain ⟨d1,st,c1,c2⟩ := code_st hp h ge gd hi (by unfold Mt; rw [if_neg (by simp [ht])]) hs.1
  have hi1 : (σ.code P x y).b.inb x y := (le_code ge hi).inb hi
  have g := fun x' y' => BS.get_upd st.ge.ok hi1 (touch true) x' y'
  refine ⟨d1.upd x y (touch true),⟨st.pl.bind (Plays.ret rfl _),?_,st.ge.upd hi1 (kv_touch true),st.gd.upd (st.rv.inb hi1) (kv_touch true),st.ew,st.eh⟩,?_⟩
  ·refine (touch_st st.rv st.ge st.gd hi1 (touch true) (fun _ => rfl) (fun _ => rfl) (fun _ _ _ => rfl) (fun _ _ e => e)).congr fun x' y' _ => ?_
   show Mt P.s ((σ.code P x y).b.upd x y (touch true)) x' y' = _
   unfold Mt
   rw [g]
   by_cases hx : x' = x ∧ y' = y
   ·rw [if_pos hx,if_pos hx,if_pos (by rfl)]
   ·rw [if_neg hx,if_neg hx,c1]
  ·intro x' y' hx
   show (((σ.code P x y).b.upd x y (touch true)).get x' y').t = _
   rw [g,if_neg hx,c1]
 ·exact ⟨d,⟨Plays.ret rfl _,h,ge,gd,rfl,rfl⟩,fun _ _ _ => rfl⟩
theorem sigs_st : ∀ {l : List (Int × Int)} {σ : ES} {d : BS},RV (Mt P.s σ.b) σ.b d → σ.b.Good → d.Good → AllIn σ.b l → l.Nodup → (∀ p ∈ l,(σ.b.get p.1 p.2).t = false) →
  ∃ d',Stt σ (σ.sigs P l) (dsigs P d l) d' (Mt P.s (σ.sigs P l).b) d'
 | [],σ,d,h,ge,gd,_,_,_ => ⟨d,⟨Plays.ret rfl _,h,ge,gd,rfl,rfl⟩⟩
 | p :: l,σ,d,h,ge,gd,ha,hn,ht => by
  rw [List.nodup_cons] at hn
  obtain ⟨d1,st,c⟩ := sig1_st hp h ge gd (ha p (by simp)) (ht p (by simp))
  obtain ⟨d2,st2⟩ := sigs_st (l := l) (σ := σ.sig1 P p.1 p.2) st.rv st.ge st.gd (ha.tail_le st.ew st.eh) hn.2 (fun q hq => by
   rw [c q.1 q.2 (fun e => hn.1 (by have : q = p := Prod.ext e.1 e.2; rw [← this]; exact hq))]
   exact ht q (by simp [hq]))
  exact ⟨d2,⟨st.pl.bind st2.pl,st2.rv,st2.ge,st2.gd,st2.ew.trans st.ew,st2.eh.trans st.eh⟩⟩
omit hp in
theorem cutv_abs (m : Nat) (v : Int) : (cutv m v).natAbs ≤ v.natAbs := by rw [natAbs_cutv]; exact cutN_le _ _
omit hp in
theorem grow_eq {s : Nat} {v : Int} (hb : 2 ^ (s + 1) ≤ v.natAbs) : cutv s v = if bitOf v s = 1 then growV s (cutv (s + 1) v) else cutv (s + 1) v := by
 have hneg := cutv_neg hb
 have hc := cutN_succ s v.natAbs
 have hb' : bitOf v s = v.natAbs / 2 ^ s % 2 := rfl
 rw [← hb'] at hc
 have h01 := bitOf_leA v s
 unfold growV
 rw [pw_eq]
 by_cases hv : v < 0
 ·rw [if_pos (hneg.2 hv)]
  unfold cutv
  rw [if_pos hv,if_pos hv]
  split
  ·rename_i h1; rw [h1] at hc; omega
  ·have h0 : bitOf v s = 0 := by omega
   rw [h0] at hc; omega
 ·rw [if_neg (fun e => hv (hneg.1 e))]
  unfold cutv
  rw [if_neg hv,if_neg hv]
  split
  ·rename_i h1; rw [h1] at hc; omega
  ·have h0 : bitOf v s = 0 := by omega
   rw [h0] at hc; omega
omit hp in
theorem pow_mono {s m : Nat} (h : s ≤ m) : 2 ^ s ≤ 2 ^ m := Nat.pow_le_pow_right (by omega) h
omit hp in
theorem ref1_st (h : RV (Mt P.s σ.b) σ.b d) (ge : σ.b.Good) (gd : d.Good) {x y : Int} (hi : σ.b.inb x y) :
  ∃ d',Stt σ (σ.ref1 P x y) (dref1 P d x y) d' (Mt P.s (σ.ref1 P x y).b) d' := by
 have hc := h.c x y
 unfold ES.ref1 dref1
 rw [hc.s,hc.t,hc.r,rv_near h]
 split
 ·exact ⟨d,⟨Plays.ret rfl _,h,ge,gd,rfl,rfl⟩⟩
 ·rename_i hno
  have hs : (σ.b.get x y).s = true := by
   cases hs : (σ.b.get x y).s
   ·exact absurd (.inl hs) hno
   ·rfl
  have ht : (σ.b.get x y).t = false := by
   cases ht : (σ.b.get x y).t
   ·rfl
   ·exact absurd (.inr ht) hno
  have hm : Mt P.s σ.b x y = P.s + 1 := by unfold Mt; rw [if_neg (by simp [ht])]
  rw [hm] at hc
  have hbig := hc.sg.1 hs
  have hg := grow_eq hbig
  have hid := h.inb hi
  have hgb : ∃ v,growB P.s d x y (bitOf (σ.b.get x y).v P.s == 1) = d.upd x y (putV v) ∧ v = cutv P.s (σ.b.get x y).v := by
   obtain ⟨r1,r2⟩ := ge.rng x y
   have ha := cutv_abs P.s (σ.b.get x y).v
   unfold growB grow
   by_cases hb : bitOf (σ.b.get x y).v P.s = 1
   ·rw [if_pos hb] at hg
    rw [hb,if_pos (by rfl),hc.v,← hg,if_pos (by omega)]
    exact ⟨_,rfl,rfl⟩
   ·rw [if_neg hb] at hg
    rw [if_neg (by simp [hb])]
    refine ⟨_,?_,rfl⟩
    rw [hg,← hc.v]
    have hgt := BS.getElem_in gd.ok hid
    unfold BS.upd putV
    have : d.cs.set (d.idx x y) (d.get x y) = d.cs := by rw [← hgt]; exact List.set_getElem_self _
    rw [this]
  obtain ⟨v,e1,e2⟩ := hgb
  have hst : RV (fun x' y' => if x' = x ∧ y' = y then P.s else Mt P.s σ.b x' y') ((σ.b.upd x y refine').upd x y (touch true)) (((growB P.s d x y (bitOf (σ.b.get x y).v P.s == 1)).upd x y refine').upd x y (touch true)) := by
   have gl := le_growB (s := P.s) gd hid (bitOf (σ.b.get x y).v P.s == 1)
   have ge1 := ge.upd hi kv_refine
   have gd1 := gl.good.upd (gl.inb hid) kv_refine
   refine ⟨by show (growB _ _ _ _ _).w = _; rw [gl.w]; exact h.w,by show (growB _ _ _ _ _).h = _; rw [gl.h]; exact h.h,fun x' y' => ?_⟩
   rw [BS.get_upd ge1.ok hi,BS.get_upd ge.ok hi,BS.get_upd ge.ok hi,BS.get_upd gd1.ok (gl.inb hid),BS.get_upd gl.good.ok (gl.inb hid),BS.get_upd gl.good.ok (gl.inb hid),e1,BS.get_upd gd.ok hid,BS.get_upd gd.ok hid]
   by_cases hx : x' = x ∧ y' = y
   ·rw [if_pos hx,if_pos hx,if_pos hx,if_pos ⟨rfl,rfl⟩,if_pos ⟨rfl,rfl⟩,if_pos ⟨rfl,rfl⟩]
    refine ⟨hc.s,rfl,rfl,e2,?_⟩
    show (σ.b.get x y).s = true ↔ _
    exact ⟨fun _ => Nat.le_trans (pow_mono (by omega)) hbig,fun _ => hs⟩
   ·rw [if_neg hx,if_neg hx,if_neg hx,if_neg hx,if_neg hx,if_neg hx]; exact h.c x' y'
  have gl := le_growB (s := P.s) gd hid (bitOf (σ.b.get x y).v P.s == 1)
  have ge1 := ge.upd hi kv_refine
  refine ⟨_,⟨?_,?_,ge1.upd hi (kv_touch true),(gl.good.upd (gl.inb hid) kv_refine).upd (gl.inb hid) (kv_touch true),rfl,rfl⟩⟩
  ·refine Plays.ask (n := bitOf (σ.b.get x y).v P.s) (bitOf_leA _ _) ?_
   exact Plays.ret rfl _
  ·refine hst.congr fun x' y' _ => ?_
   show Mt P.s ((σ.b.upd x y refine').upd x y (touch true)) x' y' = _
   unfold Mt
   rw [BS.get_upd ge1.ok hi,BS.get_upd ge.ok hi,BS.get_upd ge.ok hi]
   by_cases hx : x' = x ∧ y' = y
   ·rw [if_pos hx,if_pos hx,if_pos (by rfl)]
   ·rw [if_neg hx,if_neg hx,if_neg hx]
omit hp in
theorem refs_st : ∀ {l : List (Int × Int)} {σ : ES} {d : BS},RV (Mt P.s σ.b) σ.b d → σ.b.Good → d.Good → AllIn σ.b l →
  ∃ d',Stt σ (σ.refs P l) (drefs P d l) d' (Mt P.s (σ.refs P l).b) d'
 | [],σ,d,h,ge,gd,_ => ⟨d,⟨Plays.ret rfl _,h,ge,gd,rfl,rfl⟩⟩
 | p :: l,σ,d,h,ge,gd,ha => by
  obtain ⟨d1,st⟩ := ref1_st h ge gd (ha p (by simp))
  obtain ⟨d2,st2⟩ := refs_st (l := l) (σ := σ.ref1 P p.1 p.2) st.rv st.ge st.gd (ha.tail_le st.ew st.eh)
  exact ⟨d2,⟨st.pl.bind st2.pl,st2.rv,st2.ge,st2.gd,st2.ew.trans st.ew,st2.eh.trans st.eh⟩⟩
structure CZ (s : Nat) (Z : Int → Int → Prop) (e d : BS) : Prop where
 w : d.w = e.w
 h : d.h = e.h
 z : ∀ x y,(Z x y ∨ (e.get x y).t = true) → CR s (e.get x y) (d.get x y)
 o : ∀ x y,¬ (Z x y ∨ (e.get x y).t = true) → CR (s + 1) (e.get x y) (d.get x y) ∧ (e.inb x y → (e.get x y).s = false)
open Classical in
noncomputable def Mz (s : Nat) (Z : Int → Int → Prop) (e : BS) (x y : Int) : Nat := if Z x y ∨ (e.get x y).t = true then s else s + 1
omit hp in
theorem CZ.rv {s : Nat} {Z : Int → Int → Prop} {e d : BS} (h : CZ s Z e d) : RV (Mz s Z e) e d := by
 refine ⟨h.w,h.h,fun x y => ?_⟩
 unfold Mz
 split
 ·rename_i k; exact h.z x y k
 ·rename_i k; exact (h.o x y k).1
omit hp in
theorem CZ.congr {s : Nat} {Z Z' : Int → Int → Prop} {e d : BS} (h : CZ s Z e d) (hz : ∀ x y,e.inb x y → (Z' x y ↔ Z x y)) : CZ s Z' e d := by
 refine ⟨h.w,h.h,fun x y k => ?_,fun x y k => ?_⟩
 ·by_cases hi : e.inb x y
  ·exact h.z x y (by rwa [hz x y hi] at k)
  ·exact h.rv.out hi _
 ·by_cases hi : e.inb x y
  ·exact h.o x y (by rwa [hz x y hi] at k)
  ·exact ⟨h.rv.out hi _,fun e => absurd e hi⟩
structure Stc {α : Type} (σ τ : ES) (t : Tr α) (a : α) (s : Nat) (Z : Int → Int → Prop) (d : BS) : Prop where
 pl : Plays σ τ t a
 cz : CZ s Z τ.b d
 ge : τ.b.Good
 gd : d.Good
 ew : τ.b.w = σ.b.w
 eh : τ.b.h = σ.b.h
theorem codeC_st {Z : Int → Int → Prop} (h : CZ P.s Z σ.b d) (ge : σ.b.Good) (gd : d.Good) {x y : Int} (hi : σ.b.inb x y) (hz : ¬ Z x y) (hs : (σ.b.get x y).s = false) (ht : (σ.b.get x y).t = false) :
  ∃ d',Stc σ (σ.code P x y) (dcode P d x y) d' P.s (fun x' y' => Z x' y' ∨ (x' = x ∧ y' = y)) d' := by
 have hn : ¬ (Z x y ∨ (σ.b.get x y).t = true) := by simp [hz,ht]
 obtain ⟨d',st,c1,c2⟩ := code_st hp h.rv ge gd hi (by unfold Mz; rw [if_neg hn]) hs
 refine ⟨d',⟨st.pl,⟨st.rv.w,st.rv.h,fun x' y' k => ?_,fun x' y' k => ?_⟩,st.ge,st.gd,st.ew,st.eh⟩⟩
 ·have := st.rv.c x' y'
  by_cases hx : x' = x ∧ y' = y
  ·rwa [if_pos hx] at this
  ·rw [if_neg hx] at this
   rw [c1] at k
   unfold Mz at this
   rwa [if_pos (by rcases k with (k | k) | k; exact .inl k; exact absurd k hx; exact .inr k)] at this
 ·have := st.rv.c x' y'
  rw [c1] at k
  have hx : ¬ (x' = x ∧ y' = y) := fun e => k (.inl (.inr e))
  have hk : ¬ (Z x' y' ∨ (σ.b.get x' y').t = true) := fun e => k (by rcases e with e | e; exact .inl (.inl e); exact .inr e)
  rw [if_neg hx] at this
  unfold Mz at this
  rw [if_neg hk] at this
  refine ⟨this,fun hi' => ?_⟩
  rw [c2 x' y' hx]
  exact (h.o x' y' hk).2 (by obtain ⟨a1,a2,a3,a4⟩ := hi'; exact ⟨a1,by rw [← st.ew]; exact a2,a3,by rw [← st.eh]; exact a4⟩)
theorem cln1_st {Z : Int → Int → Prop} (h : CZ P.s Z σ.b d) (ge : σ.b.Good) (gd : d.Good) {x y : Int} (hi : σ.b.inb x y) (hz : ¬ Z x y) :
  ∃ d',Stc σ (σ.cln1 P x y) (dcln1 P d x y) d' P.s (fun x' y' => Z x' y' ∨ (x' = x ∧ y' = y)) d' := by
 have hc := h.rv.c x y
 unfold ES.cln1 dcln1
 rw [hc.s,hc.t]
 split
 ·rename_i k; exact codeC_st hp h ge gd hi hz k.1 k.2
 ·rename_i k
  have ht : (σ.b.get x y).t = true := by
   cases ht : (σ.b.get x y).t
   ·cases hs : (σ.b.get x y).s
    ·exact absurd ⟨hs,ht⟩ k
    ·have := (h.o x y (by simp [hz,ht])).2 hi
     rw [hs] at this; cases this
   ·rfl
  refine ⟨d,⟨Plays.ret rfl _,⟨h.w,h.h,fun x' y' k => ?_,fun x' y' k => ?_⟩,ge,gd,rfl,rfl⟩⟩
  ·refine h.z x' y' ?_
   rcases k with (k | ⟨rfl,rfl⟩) | k
   ·exact .inl k
   ·exact .inr ht
   ·exact .inr k
  ·exact h.o x' y' (fun e => k (by rcases e with e | e; exact .inl (.inl e); exact .inr e))
theorem rows_st {x : Int} : ∀ {n : Nat} {σ : ES} {d : BS} {y : Int} {Z : Int → Int → Prop},CZ P.s Z σ.b d → σ.b.Good → d.Good → 0 ≤ x → x < σ.b.w → 0 ≤ y → y + n ≤ σ.b.h → (∀ y',y ≤ y' → y' < y + n → ¬ Z x y') →
  ∃ d',Stc σ (σ.rows P x y n) (drows P d x y n) d' P.s (fun x' y' => Z x' y' ∨ (x' = x ∧ y ≤ y' ∧ y' < y + n)) d'
 | 0,σ,d,y,Z,h,ge,gd,_,_,_,_,_ => ⟨d,⟨Plays.ret rfl _,h.congr fun x' y' _ => ⟨fun k => by rcases k with k | k; exact k; omega,.inl⟩,ge,gd,rfl,rfl⟩⟩
 | n + 1,σ,d,y,Z,h,ge,gd,h1,h2,h3,h4,hz => by
  obtain ⟨d1,st⟩ := cln1_st hp h ge gd (x := x) (y := y) ⟨h1,h2,h3,by omega⟩ (hz y (by omega) (by omega))
  obtain ⟨d2,st2⟩ := rows_st (n := n) (y := y + 1) st.cz st.ge st.gd h1 (by rw [st.ew]; exact h2) (by omega) (by rw [st.eh]; omega) (fun y' k1 k2 k3 => by
   rcases k3 with k3 | k3
   ·exact hz y' (by omega) (by omega) k3
   ·omega)
  refine ⟨d2,⟨st.pl.bind st2.pl,st2.cz.congr fun x' y' _ => ?_,st2.ge,st2.gd,st2.ew.trans st.ew,st2.eh.trans st.eh⟩⟩
  constructor
  ·rintro (k | ⟨rfl,k1,k2⟩)
   ·exact .inl (.inl k)
   ·by_cases hy : y' = y
    ·exact .inl (.inr ⟨rfl,hy⟩)
    ·exact .inr ⟨rfl,by omega,by omega⟩
  ·rintro ((k | ⟨rfl,rfl⟩) | ⟨rfl,k1,k2⟩)
   ·exact .inl k
   ·exact .inr ⟨rfl,by omega,by omega⟩
   ·exact .inr ⟨rfl,by omega,by omega⟩
omit hp in
theorem first_zero {b : BS} {s : Nat} {x : Int} : ∀ {n : Nat} {y : Int} (j : Nat),j < n → (∀ k,firstBit b s x y n = some k → j < k) → bitOf (b.get x (y + j)).v s = 0
 | 0,_,j,hj,_ => by omega
 | n + 1,y,j,hj,hk => by
  simp only [firstBit] at hk
  split at hk
  ·have := hk 0 rfl; omega
  ·rename_i hne
   cases j with
   | zero => have := bitOf_leA (b.get x y).v s; simp; omega
   | succ j =>
    rw [show y + ((j + 1 : Nat) : Int) = y + 1 + j by omega]
    refine first_zero (n := n) j (by omega) fun k hk' => ?_
    have := hk (k + 1) (by rw [hk']; rfl)
    omega
theorem run_st {Z : Int → Int → Prop} (h : CZ P.s Z σ.b d) (ge : σ.b.Good) (gd : d.Good) {x top : Int} (hx : 0 ≤ x ∧ x < σ.b.w) (ht : 0 ≤ top ∧ top + 4 ≤ σ.b.h) (hz : ∀ y',top ≤ y' → y' < top + 4 → ¬ Z x y')
  (hq : ∀ j : Nat,j < 4 → (σ.b.get x (top + j)).s = false ∧ (σ.b.get x (top + j)).t = false) :
  ∃ d',Stc σ (σ.run P x top).1 (drun P d x top) (d',(σ.run P x top).2) P.s (fun x' y' => Z x' y' ∨ (x' = x ∧ top ≤ y' ∧ y' < (σ.run P x top).2)) d' ∧ top < (σ.run P x top).2 ∧ (σ.run P x top).2 ≤ top + 4 := by
 have hnz : ∀ j : Nat,j < 4 → ¬ (Z x (top + j) ∨ (σ.b.get x (top + j)).t = true) := fun j hj => by
  have := hz (top + j) (by omega) (by omega)
  simp [this,(hq j hj).2]
 unfold ES.run drun
 split
 ·rename_i k hk
  have hk4 := firstBit_lt hk
  have hbit := first_bit hk
  have hi : σ.b.inb x (top + k) := ⟨hx.1,hx.2,by omega,by omega⟩
  obtain ⟨d',st,c1,c2⟩ := sign_st (σ := ((σ.emit P 17 1).emit P 18 (k / 2)).emit P 18 (k % 2)) hp h.rv ge gd hi (by show Mz _ _ _ _ _ = _; unfold Mz; rw [if_neg (hnz k hk4)]) (hq k hk4).1 hbit
  refine ⟨d',⟨?_,⟨st.rv.w,st.rv.h,fun x' y' kk => ?_,fun x' y' kk => ?_⟩,st.ge,st.gd,st.ew,st.eh⟩,by simp only; omega,by simp only; omega⟩
  ·refine Plays.ask (n := 1) (by omega) ?_
   simp only [beq_self_eq_true,if_true]
   refine Plays.ask (n := k / 2) (by omega) ?_
   refine Plays.ask (n := k % 2) (by omega) ?_
   have e2 : two2 (k / 2 == 1) (k % 2 == 1) = k := by
    match k,hk4 with
    | 0,_ => rfl
    | 1,_ => rfl
    | 2,_ => rfl
    | 3,_ => rfl
   rw [e2]
   exact st.pl.bind (Plays.ret rfl _)
  ·by_cases hxy : x' = x ∧ y' = top + k
   ·have := st.rv.c x' y'
    rwa [if_pos hxy] at this
   ·have := st.rv.c x' y'
    rw [if_neg hxy] at this
    rw [c1] at kk
    rw [c2 x' y' hxy] at this ⊢
    by_cases hzz : Z x' y' ∨ (σ.b.get x' y').t = true
    ·have e : Mz P.s Z σ.b x' y' = P.s := by
      show Mz P.s Z σ.b x' y' = _
      unfold Mz; rw [if_pos hzz]
     rw [e] at this
     exact this
    ·have e : Mz P.s Z σ.b x' y' = P.s + 1 := by
      show Mz P.s Z σ.b x' y' = _
      unfold Mz; rw [if_neg hzz]
     rw [e] at this
     have hin : x' = x ∧ top ≤ y' ∧ y' < top + k + 1 := by
      rcases kk with (kk | kk) | kk
      ·exact absurd (.inl kk) hzz
      ·exact kk
      ·exact absurd (.inr kk) hzz
     obtain ⟨rfl,k1,k2⟩ := hin
     obtain ⟨j,hj⟩ := Int.eq_ofNat_of_zero_le (show 0 ≤ y' - top by omega)
     obtain rfl : y' = top + j := by omega
     have hjk : j < k := by
      have : ¬ (j = k) := fun e => hxy ⟨rfl,by rw [e]⟩
      omega
     refine cr_zero this (hq j (by omega)).1 ?_
     refine first_zero (b := σ.b) (n := 4) j (by omega) fun k' hk' => ?_
     rw [hk] at hk'; injection hk' with hk'; omega
  ·have hxy : ¬ (x' = x ∧ y' = top + k) := fun e => kk (.inl (.inr ⟨e.1,by omega,by omega⟩))
   rw [c1] at kk
   have := st.rv.c x' y'
   rw [if_neg hxy] at this
   have hzz : ¬ (Z x' y' ∨ (σ.b.get x' y').t = true) := fun e => kk (by rcases e with e | e; exact .inl (.inl e); exact .inr e)
   have e : Mz P.s Z σ.b x' y' = P.s + 1 := by
    show Mz P.s Z σ.b x' y' = _
    unfold Mz; rw [if_neg hzz]
   rw [e] at this
   exact ⟨this,fun hi' => by rw [c2 x' y' hxy]; exact (h.o x' y' hzz).2 hi'⟩
 ·rename_i hk
  refine ⟨d,⟨?_,⟨h.w,h.h,fun x' y' kk => ?_,fun x' y' kk => ?_⟩,ge,gd,rfl,rfl⟩,by simp only; omega,by simp only; omega⟩
  ·refine Plays.ask (n := 0) (by omega) ?_
   exact Plays.ret rfl _
  ·show CR _ (σ.b.get x' y') _
   by_cases hzz : Z x' y' ∨ (σ.b.get x' y').t = true
   ·exact h.z x' y' hzz
   ·have hin : x' = x ∧ top ≤ y' ∧ y' < top + 4 := by
     rcases kk with (kk | kk) | kk
     ·exact absurd (.inl kk) hzz
     ·exact kk
     ·exact absurd (.inr kk) hzz
    obtain ⟨rfl,k1,k2⟩ := hin
    obtain ⟨j,hj⟩ := Int.eq_ofNat_of_zero_le (show 0 ≤ y' - top by omega)
    obtain rfl : y' = top + j := by omega
    refine cr_zero (h.o _ _ hzz).1 (hq j (by omega)).1 ?_
    refine first_zero (n := 4) j (by omega) fun k' hk' => ?_
    rw [hk] at hk'; cases hk'
  ·exact h.o x' y' (fun e => kk (by rcases e with e | e; exact .inl (.inl e); exact .inr e))
theorem col_st {Z : Int → Int → Prop} (h : CZ P.s Z σ.b d) (ge : σ.b.Good) (gd : d.Good) {x top : Int} (hi : σ.b.inb x top) (hz : ∀ y',top ≤ y' → y' < top + 4 → ¬ Z x y') :
  ∃ d',Stc σ (σ.col P x top) (dcol P d x top) d' P.s (fun x' y' => Z x' y' ∨ (x' = x ∧ top ≤ y' ∧ y' < top + 4)) d' := by
 obtain ⟨h1,h2,h3,h4⟩ := hi
 unfold ES.col dcol
 rw [rv_quiet h.rv]
 split
 ·rename_i hq
  have hq' := hq
  simp only [quiet,Bool.and_eq_true,decide_eq_true_eq] at hq'
  obtain ⟨d1,st,r1,r2⟩ := run_st hp h ge gd (x := x) (top := top) ⟨h1,h2⟩ ⟨h3,hq'.1⟩ hz (quietFrom_facts hq'.2)
  generalize hr : σ.run P x top = r at *
  obtain ⟨τ,yr⟩ := r
  simp only at st r1 r2 ⊢
  have hn : (min (top + 4) (τ.b.h : Int) - yr).toNat = (min (top + 4) (σ.b.h : Int) - yr).toNat := by rw [st.eh]
  obtain ⟨d2,st2⟩ := rows_st hp (n := (min (top + 4) (σ.b.h : Int) - yr).toNat) (y := yr) st.cz st.ge st.gd h1 (by rw [st.ew]; exact h2) (by omega) (by rw [st.eh]; omega) (fun y' k1 k2 k3 => by
   rcases k3 with k3 | k3
   ·exact hz y' (by omega) (by omega) k3
   ·omega)
  refine ⟨d2,⟨st.pl.bind ?_,st2.cz.congr fun x' y' hi' => ?_,st2.ge,st2.gd,st2.ew.trans st.ew,st2.eh.trans st.eh⟩⟩
  ·have e : (min (top + 4) (d1.h : Int) - yr).toNat = (min (top + 4) (σ.b.h : Int) - yr).toNat := by rw [st.cz.h,st.eh]
   rw [e]; exact st2.pl
  ·constructor
   ·rintro (k | ⟨rfl,k1,k2⟩)
    ·exact .inl (.inl k)
    ·by_cases hy : y' < yr
     ·exact .inl (.inr ⟨rfl,by omega,hy⟩)
     ·exact .inr ⟨rfl,by omega,by omega⟩
   ·rintro ((k | ⟨rfl,k1,k2⟩) | ⟨rfl,k1,k2⟩)
    ·exact .inl k
    ·exact .inr ⟨rfl,by omega,by omega⟩
    ·exact .inr ⟨rfl,by omega,by omega⟩
 ·obtain ⟨d2,st2⟩ := rows_st hp (n := (min (top + 4) (σ.b.h : Int) - top).toNat) (y := top) h ge gd h1 h2 (by omega) (by omega) (fun y' k1 k2 k3 => hz y' (by omega) (by omega) k3)
  refine ⟨d2,⟨?_,st2.cz.congr fun x' y' hi' => ?_,st2.ge,st2.gd,st2.ew,st2.eh⟩⟩
  ·rw [h.h]; exact st2.pl
  ·have hb : y' < σ.b.h := by have := hi'.2.2.2; rwa [st2.eh] at this
   constructor
   ·rintro (k | ⟨rfl,k1,k2⟩)
    ·exact .inl k
    ·exact .inr ⟨rfl,by omega,by omega⟩
   ·rintro (k | ⟨rfl,k1,k2⟩)
    ·exact .inl k
    ·exact .inr ⟨rfl,by omega,by omega⟩
theorem cols_st {top : Int} : ∀ {n : Nat} {σ : ES} {d : BS} {x : Int} {Z : Int → Int → Prop},CZ P.s Z σ.b d → σ.b.Good → d.Good → 0 ≤ x → x + n ≤ σ.b.w → 0 ≤ top → top < σ.b.h → (∀ x' y',x ≤ x' → top ≤ y' → y' < top + 4 → ¬ Z x' y') →
  ∃ d',Stc σ (σ.cols P x top n) (dcols P d x top n) d' P.s (fun x' y' => Z x' y' ∨ (x ≤ x' ∧ x' < x + n ∧ top ≤ y' ∧ y' < top + 4)) d'
 | 0,σ,d,x,Z,h,ge,gd,_,_,_,_,_ => ⟨d,⟨Plays.ret rfl _,h.congr fun x' y' _ => ⟨fun k => by rcases k with k | k; exact k; omega,.inl⟩,ge,gd,rfl,rfl⟩⟩
 | n + 1,σ,d,x,Z,h,ge,gd,h1,h2,h3,h4,hz => by
  obtain ⟨d1,st⟩ := col_st hp h ge gd (x := x) (top := top) ⟨h1,by omega,h3,h4⟩ (fun y' k1 k2 => hz x y' (by omega) k1 k2)
  obtain ⟨d2,st2⟩ := cols_st (n := n) (x := x + 1) st.cz st.ge st.gd (by omega) (by rw [st.ew]; omega) h3 (by rw [st.eh]; exact h4) (fun x' y' k0 k1 k2 k3 => by
   rcases k3 with k3 | k3
   ·exact hz x' y' (by omega) k1 k2 k3
   ·omega)
  refine ⟨d2,⟨st.pl.bind st2.pl,st2.cz.congr fun x' y' _ => ?_,st2.ge,st2.gd,st2.ew.trans st.ew,st2.eh.trans st.eh⟩⟩
  constructor
  ·rintro (k | ⟨k0,k1,k2,k3⟩)
   ·exact .inl (.inl k)
   ·by_cases hx : x' = x
    ·exact .inl (.inr ⟨hx,k2,k3⟩)
    ·exact .inr ⟨by omega,by omega,k2,k3⟩
  ·rintro ((k | ⟨rfl,k1,k2⟩) | ⟨k0,k1,k2,k3⟩)
   ·exact .inl k
   ·exact .inr ⟨by omega,by omega,k1,k2⟩
   ·exact .inr ⟨by omega,by omega,k2,k3⟩
theorem stripes_st : ∀ {n : Nat} {σ : ES} {d : BS} {top : Int} {Z : Int → Int → Prop},CZ P.s Z σ.b d → σ.b.Good → d.Good → 0 ≤ top → top + 4 * n ≤ σ.b.h + 3 → (∀ x' y',top ≤ y' → ¬ Z x' y') →
  ∃ d',Stc σ (σ.stripes P top n) (dstripes P d top n) d' P.s (fun x' y' => Z x' y' ∨ (top ≤ y' ∧ y' < top + 4 * n)) d'
 | 0,σ,d,top,Z,h,ge,gd,_,_,_ => ⟨d,⟨Plays.ret rfl _,h.congr fun x' y' _ => ⟨fun k => by rcases k with k | k; exact k; omega,.inl⟩,ge,gd,rfl,rfl⟩⟩
 | n + 1,σ,d,top,Z,h,ge,gd,h1,h2,hz => by
  obtain ⟨d1,st⟩ := cols_st hp (n := σ.b.w) h ge gd (x := 0) (top := top) (by omega) (by omega) h1 (by omega) (fun x' y' _ k1 _ => hz x' y' k1)
  obtain ⟨d2,st2⟩ := stripes_st (n := n) (top := top + 4) st.cz st.ge st.gd (by omega) (by rw [st.eh]; omega) (fun x' y' k1 k2 => by
   rcases k2 with k2 | k2
   ·exact hz x' y' (by omega) k2
   ·omega)
  refine ⟨d2,⟨?_,st2.cz.congr fun x' y' hi' => ?_,st2.ge,st2.gd,st2.ew.trans st.ew,st2.eh.trans st.eh⟩⟩
  ·rw [dstripes,h.w]; exact st.pl.bind st2.pl
  ·obtain ⟨i1,i2,i3,i4⟩ := hi'
   rw [st2.ew,st.ew] at i2
   constructor
   ·rintro (k | ⟨k0,k1⟩)
    ·exact .inl (.inl k)
    ·by_cases hy : y' < top + 4
     ·exact .inl (.inr ⟨i1,by omega,k0,hy⟩)
     ·exact .inr ⟨by omega,by omega⟩
   ·rintro ((k | ⟨k0,k1,k2,k3⟩) | ⟨k0,k1⟩)
    ·exact .inl k
    ·exact .inr ⟨k2,by omega⟩
    ·exact .inr ⟨by omega,by omega⟩
omit hp in
theorem clear_b : ∀ (l : List (Int × Int)) (σ : ES),(σ.clear l).b = σ.b.clr l ∧ (σ.clear l).out = σ.out
 | [],σ => ⟨rfl,rfl⟩
 | p :: l,σ => clear_b l (σ.map p.1 p.2 (touch false))
omit hp in
theorem clr_rv {M : Int → Int → Nat} : ∀ {l : List (Int × Int)} {e d : BS},RV M e d → e.Good → d.Good → AllIn e l → RV M (e.clr l) (d.clr l)
 | [],e,d,h,_,_,_ => h
 | p :: l,e,d,h,ge,gd,ha => by
  have hi := ha p (by simp)
  have h1 := touch_st (σ' := ⟨e,[]⟩) h ge gd hi (touch false) (fun _ => rfl) (fun _ => rfl) (fun _ _ _ => rfl) (fun _ _ e => e)
  exact clr_rv (l := l) h1 (ge.upd hi (kv_touch false)) (gd.upd (h.inb hi) (kv_touch false)) (ha.tail_le (b' := e.upd p.1 p.2 (touch false)) rfl rfl)
theorem clean_st (h : RV (fun x y => if (σ.b.get x y).t = true then P.s else P.s + 1) σ.b d) (ge : σ.b.Good) (gd : d.Good) (ha : ∀ x y,σ.b.inb x y → (σ.b.get x y).s = true → (σ.b.get x y).t = true) (on : Bool) :
  ∃ d',Stt σ (σ.clean P on) (dclean P d on) (d',true) (fun _ _ => P.s) d' ∧ (∀ x y,((σ.clean P on).b.get x y).t = false) := by
 have hcz : CZ P.s (fun _ _ => False) σ.b d := by
  refine ⟨h.w,h.h,fun x y k => ?_,fun x y k => ?_⟩
  ·have := h.c x y
   rcases k with k | k
   ·exact k.elim
   ·rwa [if_pos k] at this
  ·have := h.c x y
   simp only [false_or] at k
   rw [if_neg k] at this
   refine ⟨this,fun hi => ?_⟩
   cases hs : (σ.b.get x y).s
   ·rfl
   ·exact absurd (ha x y hi hs) k
 have g2 : (0 : Int) + 4 * ((stripesOf σ.b.h : Nat) : Int) ≤ σ.b.h + 3 := by unfold stripesOf; omega
 obtain ⟨d1,st⟩ := stripes_st hp (n := stripesOf σ.b.h) hcz ge gd (top := 0) (by omega) g2 (fun _ _ _ h => h)
 have hrv : RV (fun _ _ => P.s) (σ.stripes P 0 (stripesOf σ.b.h)).b d1 := by
  refine ⟨st.cz.w,st.cz.h,fun x y => ?_⟩
  by_cases hi : (σ.stripes P 0 (stripesOf σ.b.h)).b.inb x y
  ·refine st.cz.z x y (.inl (.inr ?_))
   obtain ⟨i1,i2,i3,i4⟩ := hi
   rw [st.eh] at i4
   unfold stripesOf
   omega
  ·exact st.cz.rv.out hi _
 generalize hτ : σ.stripes P 0 (stripesOf σ.b.h) = τ at *
 have hall : AllIn τ.b (scan σ.b.w σ.b.h) := by have := scanIn τ.b; rwa [st.ew,st.eh] at this
 have hr2 := clr_rv hrv st.ge st.gd hall
 obtain ⟨cb,co⟩ := clear_b (scan σ.b.w σ.b.h) τ
 have hle := le_clr st.ge hall
 have hld := le_clr st.gd (l := scan σ.b.w σ.b.h) (fun q hq => hrv.inb (hall q hq))
 have hclean : (σ.clean P on).b = τ.b.clr (scan σ.b.w σ.b.h) := by
  unfold ES.clean ES.check
  rw [hτ,← cb]
  split <;> rfl
 have hde : dclean P d on = (dstripes P d 0 (stripesOf σ.b.h)).bind fun b => (dcheck P on).bind fun r => .ret (b.clr (scan b.w b.h),r) := by
  unfold dclean; rw [hcz.h]
 refine ⟨d1.clr (scan σ.b.w σ.b.h),⟨?_,by rw [hclean]; exact hr2,by rw [hclean]; exact hle.good,hld.good,by rw [hclean]; exact hle.w.trans st.ew,by rw [hclean]; exact hle.h.trans st.eh⟩,fun x y => ?_⟩
 ·rw [hde]
  refine st.pl.bind ?_
  rw [st.cz.w,st.cz.h,st.ew,st.eh]
  refine Plays.bind (τ := σ.clean P on) (a := true) ?_ (Plays.ret rfl _)
  unfold ES.clean ES.check dcheck
  rw [hτ]
  cases on
  ·exact Plays.ret (by rw [if_neg (by simp)]; exact co) _
  ·rw [if_pos rfl,if_pos rfl]
   refine Plays.out ?_ (τ := (((τ.emit P 18 1).emit P 18 0).emit P 18 1).emit P 18 0) (by simp [ES.emit,co])
   refine Plays.ask (n := 1) (by omega) ?_
   refine Plays.ask (n := 0) (by omega) ?_
   refine Plays.ask (n := 1) (by omega) ?_
   refine Plays.ask (n := 0) (by omega) ?_
   exact Plays.ret rfl _
 ·rw [hclean]
  by_cases hi : (τ.b.clr (scan σ.b.w σ.b.h)).inb x y
  ·obtain ⟨c1,c2,c3⟩ := clear_facts (scan σ.b.w σ.b.h) (σ := τ) st.ge hall
   rw [← cb]
   obtain ⟨i1,i2,i3,i4⟩ := hi
   exact c1 (x,y) (scan_mem i1 (by rw [hle.w,st.ew] at i2; exact i2) i3 (by rw [hle.h,st.eh] at i4; exact i4))
  ·rw [BS.get_out hi]; rfl
end
theorem scan_le {b : BS} (hg : b.Good) : (scan b.w b.h).length ≤ 4096 := by
 have hw := hg.ok.w2
 have hh := hg.ok.h2
 have := scanPts_len b.w b.h (stripesOf b.h) 0
 have h2 : 4 * b.w * stripesOf b.h ≤ 4 * 64 * 16 := Nat.mul_le_mul (by omega) (by unfold stripesOf; omega)
 unfold scan; omega
theorem rst_le {m : MD} {b : BS} (hg : b.Good) {k planes o : Nat} : (ES.mk b []).Le (runSt m b k planes o) 60000 := by
 have hs := scan_le hg
 have hst : 12 * b.w * stripesOf b.h ≤ 12 * 64 * 16 := Nat.mul_le_mul (by have := hg.ok.w2; omega) (by have := hg.ok.h2; unfold stripesOf; omega)
 unfold runSt
 split
 ·exact (le_sigs (σ := ⟨b,[]⟩) hg (scanIn b)).mono (by omega)
 ·split
  ·exact (le_refs (σ := ⟨b,[]⟩) hg (scanIn b)).mono (by omega)
  ·have h1 := le_stripes (P := runPP m k planes o) (σ := ⟨b,[]⟩) (n := stripesOf b.h) hg (top := 0) (by omega) (by show (0 : Int) + 4 * (stripesOf b.h : Nat) ≤ b.h + 3; unfold stripesOf; omega)
   have hall : AllIn (ES.stripes (runPP m k planes o) ⟨b,[]⟩ 0 (stripesOf b.h)).b (scan b.w b.h) := by have := scanIn (ES.stripes (runPP m k planes o) ⟨b,[]⟩ 0 (stripesOf b.h)).b; rwa [h1.w,h1.h] at this
   have h2 := le_clear h1.good hall
   have h3 := h1.trans h2
   have h4 : ∀ τ : ES,τ.b.Good → τ.Le (τ.check (runPP m k planes o) m.sy) 4 := by
    intro τ hτ
    unfold ES.check
    split
    ·exact ⟨rfl,rfl,hτ,by simp [ES.emit],fun _ _ => rfl⟩
    ·exact ES.Le.refl hτ 4
   exact (h3.trans (h4 _ h3.good)).mono (by show 12 * b.w * stripesOf b.h + 0 + 4 ≤ 60000; omega)
theorem ref1_adone {P : PP} {σ : ES} (hg : σ.b.Good) {x y : Int} (hi : σ.b.inb x y) : Adone (σ.ref1 P x y).b (x,y) ∧ ∀ x' y',Adone σ.b (x',y') → Adone (σ.ref1 P x y).b (x',y') := by
 unfold ES.ref1
 split
 ·rename_i h
  refine ⟨fun hs => ?_,fun _ _ h => h⟩
  rcases h with h | h
  ·simp only at hs; rw [h] at hs; cases hs
  ·exact h
 ·have g1 := hg.upd hi kv_refine
  have g : ∀ x' y',(((σ.b.upd x y refine').upd x y (touch true)).get x' y') = if x' = x ∧ y' = y then touch true ((σ.b.upd x y refine').get x y) else (σ.b.upd x y refine').get x' y' := fun x' y' => BS.get_upd g1.ok hi _ x' y'
  have g' : ∀ x' y',((σ.b.upd x y refine').get x' y') = if x' = x ∧ y' = y then refine' (σ.b.get x y) else σ.b.get x' y' := fun x' y' => BS.get_upd hg.ok hi _ x' y'
  refine ⟨fun _ => ?_,fun x' y' ha => ?_⟩
  ·show (((σ.b.upd x y refine').upd x y (touch true)).get x y).t = true
   rw [g,if_pos ⟨rfl,rfl⟩]; rfl
  ·show (((σ.b.upd x y refine').upd x y (touch true)).get x' y').s = true → (((σ.b.upd x y refine').upd x y (touch true)).get x' y').t = true
   rw [g]
   split
   ·exact fun _ => rfl
   ·rename_i hx
    rw [g',if_neg hx]; exact ha
theorem refs_adone {P : PP} : ∀ {l : List (Int × Int)} {σ : ES},σ.b.Good → AllIn σ.b l → (∀ p ∈ l,Adone (σ.refs P l).b p) ∧ ∀ p,Adone σ.b p → Adone (σ.refs P l).b p
 | [],σ,_,_ => ⟨fun p hp => (by cases hp),fun _ h => h⟩
 | p :: l,σ,hg,ha => by
  obtain ⟨a1,a2⟩ := ref1_adone (P := P) hg (ha p (by simp))
  have hl := le_ref1 (P := P) hg (ha p (by simp))
  obtain ⟨b1,b2⟩ := refs_adone (P := P) (l := l) (σ := σ.ref1 P p.1 p.2) hl.good (AllIn.le (fun q hq => ha q (by simp [hq])) hl)
  refine ⟨fun q hq => ?_,fun q hq => b2 q (a2 q.1 q.2 hq)⟩
  simp only [List.mem_cons] at hq
  rcases hq with rfl | hq
  ·exact b2 q a1
  ·exact b1 q hq
structure DJ (planes j : Nat) (e d : BS) : Prop where
 rv : RV (Mt (planes - 1 - planeOf j) e) e d
 ge : e.Good
 gd : d.Good
 k0 : kindOf j = 0 → ∀ x y,(e.get x y).t = false
 k2 : kindOf j = 2 → ∀ x y,e.inb x y → (e.get x y).s = true → (e.get x y).t = true
def Ma (planes j : Nat) (e : BS) (x y : Int) : Nat := if kindOf j ≠ 2 ∧ (e.get x y).t = false then planes - 1 - planeOf j + 1 else planes - 1 - planeOf j
theorem planes_next {j : Nat} : (kindOf j ≠ 2 → planeOf (j + 1) = planeOf j) ∧ (kindOf j = 2 → planeOf (j + 1) = planeOf j + 1) := by
 unfold kindOf planeOf
 by_cases h : j = 0
 ·subst h; simp
 ·rw [if_neg h,if_neg (by omega),if_neg h]
  omega
theorem dj_step {m : MD} {planes o j : Nat} {e d : BS} (h : DJ planes j e d) (hpl : planes ≤ 60) (h1 : 1 ≤ planes) (ho : o ≤ 3) :
  ∃ d',(dRun m d j planes o).play ((runSt m e j planes o).out.map symI) = some ((d',true),[]) ∧ RV (Ma planes j (runSt m e j planes o).b) (runSt m e j planes o).b d' ∧ d'.Good ∧
   (j + 1 ≤ 3 * planes - 3 → DJ planes (j + 1) (runSt m e j planes o).b d') := by
 have hp := runPP_ok (m := m) (n := j) hpl h1 ho
 have hs : (runPP m j planes o).s = planes - 1 - planeOf j := rfl
 have hle := rst_le (m := m) h.ge (k := j) (planes := planes) (o := o)
 have hrv := h.rv
 rw [← hs] at hrv
 obtain ⟨pn1,pn2⟩ := planes_next (j := j)
 have hpl' : ∀ {σ : ES} {t : Tr (BS × Bool)} {a : BS × Bool},Plays ⟨e,[]⟩ σ t a → t.play (σ.out.map symI) = some (a,[]) := by
  intro σ t a hp
  obtain ⟨l,h1,h2⟩ := hp
  simp only [List.nil_append] at h1
  have := h2 []
  rw [List.append_nil] at this
  rw [h1]; exact this
 rcases kind_next j with ⟨k0,kn⟩ | ⟨k0,kn⟩ | ⟨k0,kn⟩
 ·have hrun : runSt m e j planes o = ES.sigs (runPP m j planes o) ⟨e,[]⟩ (scan e.w e.h) := by unfold runSt; rw [if_pos k0]
  have hdr : dRun m d j planes o = (dsigs (runPP m j planes o) d (scan e.w e.h)).bind fun b => .ret (b,true) := by unfold dRun; rw [if_pos k0,h.rv.w,h.rv.h]
  obtain ⟨d',st⟩ := sigs_st hp (σ := ⟨e,[]⟩) hrv h.ge h.gd (scanIn e) (scan_nodup _ _) (fun p _ => h.k0 k0 p.1 p.2)
  rw [← hrun] at st
  have hma : RV (Ma planes j (runSt m e j planes o).b) (runSt m e j planes o).b d' := by
   refine st.rv.congr fun x y _ => ?_
   unfold Ma Mt
   rw [hs]
   cases ((runSt m e j planes o).b.get x y).t <;> simp [k0]
  refine ⟨d',?_,hma,st.gd,fun hj => ⟨?_,st.ge,st.gd,fun h => by omega,fun h => by omega⟩⟩
  ·rw [hdr]; exact hpl' (st.pl.bind (Plays.ret rfl _))
  ·rw [pn1 (by omega)]; exact st.rv
 ·have hrun : runSt m e j planes o = ES.refs (runPP m j planes o) ⟨e,[]⟩ (scan e.w e.h) := by unfold runSt; rw [if_neg (by omega),if_pos k0]
  have hdr : dRun m d j planes o = (drefs (runPP m j planes o) d (scan e.w e.h)).bind fun b => .ret (b,true) := by unfold dRun; rw [if_neg (by omega),if_pos k0,h.rv.w,h.rv.h]
  obtain ⟨d',st⟩ := refs_st (P := runPP m j planes o) (σ := ⟨e,[]⟩) hrv h.ge h.gd (scanIn e)
  obtain ⟨ad,_⟩ := refs_adone (P := runPP m j planes o) (σ := ⟨e,[]⟩) h.ge (scanIn e)
  rw [← hrun] at st ad
  have hma : RV (Ma planes j (runSt m e j planes o).b) (runSt m e j planes o).b d' := by
   refine st.rv.congr fun x y _ => ?_
   unfold Ma Mt
   rw [hs]
   cases ((runSt m e j planes o).b.get x y).t <;> simp [k0]
  refine ⟨d',?_,hma,st.gd,fun hj => ⟨?_,st.ge,st.gd,fun h => by omega,fun _ x y hi => ?_⟩⟩
  ·rw [hdr]; exact hpl' (st.pl.bind (Plays.ret rfl _))
  ·rw [pn1 (by omega)]; exact st.rv
  ·obtain ⟨i1,i2,i3,i4⟩ := hi
   exact ad (x,y) (scan_mem i1 (by rw [st.ew] at i2; exact i2) i3 (by rw [st.eh] at i4; exact i4))
 ·have hrun : runSt m e j planes o = ES.clean (runPP m j planes o) ⟨e,[]⟩ m.sy := by unfold runSt; rw [if_neg (by omega),if_neg (by omega)]
  have hdr : dRun m d j planes o = dclean (runPP m j planes o) d m.sy := by unfold dRun; rw [if_neg (by omega),if_neg (by omega)]
  obtain ⟨d',st,ct⟩ := clean_st hp (σ := ⟨e,[]⟩) hrv h.ge h.gd (h.k2 k0) m.sy
  rw [← hrun] at st ct
  have hma : RV (Ma planes j (runSt m e j planes o).b) (runSt m e j planes o).b d' := by
   refine st.rv.congr fun x y _ => ?_
   unfold Ma
   rw [if_neg (by omega),hs]
  refine ⟨d',?_,hma,st.gd,fun hj => ⟨?_,st.ge,st.gd,fun _ => ct,fun h => by omega⟩⟩
  ·rw [hdr]; exact hpl' st.pl
  ·refine st.rv.congr fun x y _ => ?_
   unfold Mt
   rw [if_neg (by simp [ct]),hs,pn2 k0]
   have : planeOf (j + 1) ≤ planes - 1 := planeOf_le hj h1
   rw [pn2 k0] at this
   omega
def afterP (m : MD) (planes o : Nat) : Nat → Nat → BS → BS
 | 0,_,b => b
 | n + 1,k,b => afterP m planes o n (k + 1) (runSt m b k planes o).b
theorem dj_loop {m : MD} {planes o : Nat} (hpl : planes ≤ 60) (h1 : 1 ≤ planes) (ho : o ≤ 3) : ∀ (c j : Nat) (e d : BS),DJ planes j e d → 0 < c → j + c ≤ 3 * planes - 2 →
  ∃ d',vLoop m planes o j d ((passesOf m planes o c j e).map (·.map symI)) = (d',0) ∧ RV (Ma planes (j + c - 1) (afterP m planes o c j e)) (afterP m planes o c j e) d' ∧ d'.Good ∧ (afterP m planes o c j e).w = e.w ∧ (afterP m planes o c j e).h = e.h ∧
   (∀ x y,((afterP m planes o c j e).get x y).v = (e.get x y).v) ∧ (j + c ≤ 3 * planes - 3 → DJ planes (j + c) (afterP m planes o c j e) d')
 | 0,j,e,d,_,hc,_ => by omega
 | c + 1,j,e,d,h,_,hj => by
  obtain ⟨d1,p1,rv1,gd1,nx⟩ := dj_step (m := m) h hpl h1 ho
  have hle := rst_le (m := m) h.ge (k := j) (planes := planes) (o := o)
  have hv : vLoop m planes o j d ((passesOf m planes o (c + 1) j e).map (·.map symI)) = vLoop m planes o (j + 1) d1 ((passesOf m planes o c (j + 1) (runSt m e j planes o).b).map (·.map symI)) := by
   rw [passesOf,List.map_cons,vLoop,p1]
   simp
  rw [hv]
  cases c with
  | zero =>
   exact ⟨d1,by simp [passesOf,vLoop],rv1,gd1,hle.w,hle.h,hle.v,fun hh => nx (by omega)⟩
  | succ c =>
   obtain ⟨d',q1,q2,q3,q5,q6,q7,q8⟩ := dj_loop hpl h1 ho (c + 1) (j + 1) _ d1 (nx (by omega)) (by omega) (by omega)
   refine ⟨d',q1,?_,q3,q5.trans hle.w,q6.trans hle.h,fun x y => (q7 x y).trans (hle.v x y),fun hh => ?_⟩
   ·rw [show j + (c + 1 + 1) - 1 = j + 1 + (c + 1) - 1 by omega]; exact q2
   ·rw [show j + (c + 1 + 1) = j + 1 + (c + 1) by omega]; exact q8 (by omega)
theorem get_new {w h : Nat} (x y : Int) : (newBS w h).get x y = .zero := by
 unfold BS.get
 split
 ·simp only [newBS,blank,List.getD_eq_getElem?_getD,List.getElem?_replicate]
  split <;> rfl
 ·rfl
theorem dj_start {w h : Nat} {xs : List Int} (hg : (fillTo w h xs xs.length).Good) (hx : ∀ x y,((fillTo w h xs xs.length).get x y).s = false ∧ ((fillTo w h xs xs.length).get x y).t = false ∧ ((fillTo w h xs xs.length).get x y).r = false)
  {planes : Nat} (h1 : 1 ≤ planes) (hv : ∀ x y,((fillTo w h xs xs.length).get x y).v.natAbs < 2 ^ planes) : DJ planes 0 (fillTo w h xs xs.length) (newBS w h) := by
 refine ⟨⟨rfl,rfl,fun x y => ?_⟩,hg,newBS_good hg.ok.w1 hg.ok.w2 hg.ok.h1 hg.ok.h2,fun h => by simp [kindOf] at h,fun _ x y _ hs => ?_⟩
 ·obtain ⟨a1,a2,a3⟩ := hx x y
  have : Mt (planes - 1 - planeOf 0) (fillTo w h xs xs.length) x y = planes := by
   unfold Mt; rw [if_neg (by simp [a2])]; simp [planeOf]; omega
  rw [this,get_new]
  exact ⟨a1.symm,a2.symm,a3.symm,(cutv_zero (hv x y)).symm,by rw [a1]; exact ⟨fun k => (by cases k),fun k => absurd k (Nat.not_le_of_lt (hv x y))⟩⟩
 ·rw [(hx x y).1] at hs; cases hs
def stdI (l : List (List (Int × Nat))) : List (List (Int × Int)) := l.map (·.map symI)
theorem mk_eta (b : BS) : (⟨b.w,b.h,b.cs⟩ : BS) = b := rfl
theorem get_idx {b : BS} (ho : b.Ok) {i : Nat} (hi : i < b.w * b.h) : b.cs[i]? = some (b.get ((i % b.w : Nat) : Int) ((i / b.w : Nat) : Int)) := by
 have hw := ho.w1
 have h1 := BS.get_in ho (inb_divmod (i := i) (h := b.h) (w := b.w) (by omega) hi b.cs)
 have h2 := idx_divmod (w := b.w) (h := b.h) (i := i) (by omega) b.cs
 rw [mk_eta] at h2
 rw [h2] at h1
 exact h1
theorem fill_full {w h : Nat} {xs : List Int} (hl : xs.length = w * h) : (fillTo w h xs xs.length).cs = xs.map cellOf := by
 rw [fillTo,List.take_of_length_le (Nat.le_refl _),hl,Nat.sub_self]; simp [blank]
theorem fill_get {w h : Nat} {xs : List Int} (hl : xs.length = w * h) (x y : Int) : ((fillTo w h xs xs.length).get x y).s = false ∧ ((fillTo w h xs xs.length).get x y).t = false ∧ ((fillTo w h xs xs.length).get x y).r = false ∧
  (((fillTo w h xs xs.length).get x y).v = 0 ∨ ((fillTo w h xs xs.length).get x y).v ∈ xs) := by
 unfold BS.get
 split
 ·rw [fill_full hl]
  simp only [List.getD_eq_getElem?_getD,List.getElem?_map]
  generalize BS.idx _ x y = j
  by_cases hj : j < xs.length
  ·rw [List.getElem?_eq_getElem hj]
   exact ⟨rfl,rfl,rfl,.inr (List.getElem_mem hj)⟩
  ·rw [List.getElem?_eq_none (by omega)]
   exact ⟨rfl,rfl,rfl,.inl rfl⟩
 ·exact ⟨rfl,rfl,rfl,.inl rfl⟩
section
variable {xs : List Int} {w h : Nat} {o : Int} {m : MD}
theorem start_of (w1 : 1 ≤ w) (w2 : w ≤ 64) (h1 : 1 ≤ h) (h2 : h ≤ 64) (hl : xs.length = w * h) (hp : planesOf xs ≤ 60) (hp1 : 1 ≤ planesOf xs) : DJ (planesOf xs) 0 (fillTo w h xs xs.length) (newBS w h) := by
 refine dj_start (fillTo_good (newBS_good w1 w2 h1 h2) hl _ (Nat.le_refl _) ?_) (fun x y => ?_) hp1 (fun x y => ?_)
 ·rw [List.take_of_length_le (Nat.le_refl _)]; exact inR_planes.2 hp
 ·obtain ⟨a,b,c,_⟩ := fill_get hl x y
  exact ⟨a,b,c⟩
 ·obtain ⟨_,_,_,hv | hv⟩ := fill_get hl x y
  ·rw [hv]; exact Nat.two_pow_pos _
  ·exact planes_le.1 (Nat.le_refl _) _ hv
theorem prefix_law (w1 : 1 ≤ w) (w2 : w ≤ 64) (h1 : 1 ≤ h) (h2 : h ≤ 64) (hl : xs.length = w * h) (hp : planesOf xs ≤ 60) (ho : 0 ≤ o ∧ o ≤ 3) {n : Nat} (hn : n ≤ 3 * planesOf xs - 2) :
  ∃ d : BS,valRes (stdI (passesOf m (planesOf xs) o.toNat n 0 (fillTo w h xs xs.length))) (planesOf xs) w h o m = (0,d.cs.map (·.v),d.cs.map fun c => leftOf (planesOf xs) n c.t) ∧ d.cs.length = xs.length ∧
   ∀ i (hi : i < xs.length) (hd : i < d.cs.length),0 ≤ leftOf (planesOf xs) n d.cs[i].t ∧ leftOf (planesOf xs) n d.cs[i].t ≤ planesOf xs ∧ d.cs[i].v = cutv (leftOf (planesOf xs) n d.cs[i].t).toNat xs[i] := by
 have hlen : (stdI (passesOf m (planesOf xs) o.toNat n 0 (fillTo w h xs xs.length))).length = n := by simp [stdI,passesOf_len]
 have herr : valErr n (planesOf xs) w h o = 0 := by
  unfold valErr sized
  rw [if_neg (by simp; omega),if_neg (by omega),if_neg (by omega)]
 unfold valRes
 rw [hlen,herr,if_neg (by simp)]
 simp only [Int.toNat_natCast]
 by_cases hn0 : n = 0
 ·subst hn0
  refine ⟨newBS w h,by simp [passesOf,stdI,vLoop,hlen],by simp [newBS,blank,hl],fun i hi hd => ?_⟩
  have hv : (newBS w h).cs[i] = .zero := by simp [newBS,blank]
  have hlo : ∀ t,leftOf (planesOf xs : Int) 0 t = planesOf xs := fun t => by simp [leftOf]
  rw [hv,hlo,Int.toNat_natCast]
  refine ⟨by omega,by omega,?_⟩
  exact (cutv_zero (planes_le.1 (Nat.le_refl _) _ (List.getElem_mem hi))).symm
 ·have hp1 : 1 ≤ planesOf xs := by omega
  obtain ⟨d',q1,q2,q3,q5,q6,q7,_⟩ := dj_loop (m := m) hp hp1 (show o.toNat ≤ 3 by omega) n 0 _ _ (start_of w1 w2 h1 h2 hl hp hp1) (by omega) (by omega)
  have q1' : vLoop m (planesOf xs) o.toNat 0 (newBS w h) (stdI (passesOf m (planesOf xs) o.toNat n 0 (fillTo w h xs xs.length))) = (d',0) := q1
  rw [q1']
  have hdw : d'.w = w := by rw [q2.w,q5]; rfl
  have hdh : d'.h = h := by rw [q2.h,q6]; rfl
  refine ⟨d',by rw [if_neg (by simp)],by rw [q3.ok.len,hdw,hdh,hl],fun i hi hd => ?_⟩
  have hget := get_idx q3.ok (i := i) (by rw [hdw,hdh]; omega)
  rw [List.getElem?_eq_getElem hd] at hget
  injection hget with hget
  rw [hdw] at hget
  generalize hAF : afterP m (planesOf xs) o.toNat n 0 (fillTo w h xs xs.length) = e' at *
  have hc := q2.c ((i % w : Nat) : Int) ((i / w : Nat) : Int)
  rw [← hget] at hc
  have hxi : (e'.get ((i % w : Nat) : Int) ((i / w : Nat) : Int)).v = xs[i] := by
   rw [q7]
   have hok : (fillTo w h xs xs.length).Ok := (start_of w1 w2 h1 h2 hl hp hp1).ge.ok
   have := get_idx hok (i := i) (show i < w * h by omega)
   rw [fill_full hl,List.getElem?_map,List.getElem?_eq_getElem hi] at this
   have h2 := Option.some.inj this
   show ((fillTo w h xs xs.length).get ((i % (fillTo w h xs xs.length).w : Nat) : Int) ((i / (fillTo w h xs xs.length).w : Nat) : Int)).v = _
   rw [← h2]; rfl
  have hpo : planeOf (n - 1) ≤ planesOf xs - 1 := planeOf_le (by omega) hp1
  have hma : ((Ma (planesOf xs) (0 + n - 1) e' ((i % w : Nat) : Int) ((i / w : Nat) : Int) : Nat) : Int) = leftOf (planesOf xs) n d'.cs[i].t := by
   rw [leftOf_pos hn0,hc.t,show 0 + n - 1 = n - 1 by omega]
   unfold Ma
   cases (e'.get ((i % w : Nat) : Int) ((i / w : Nat) : Int)).t
   ·by_cases hk : kindOf (n - 1) = 2
    ·rw [if_neg (by simp [hk]),if_neg (by simp [hk])]; omega
    ·rw [if_pos (by simp [hk]),if_pos (by simp [hk])]; omega
   ·rw [if_neg (by simp),if_neg (by simp)]; omega
  have hle : (leftOf (planesOf xs) n d'.cs[i].t) ≤ planesOf xs := by
   rw [leftOf_pos hn0]
   split
   ·rename_i hk
    have : kindOf (n - 1) ≠ 2 := by simp at hk; exact hk.1
    have : 1 ≤ planeOf (n - 1) := by unfold planeOf kindOf at *; split <;> simp_all
    omega
   ·omega
  refine ⟨by omega,hle,?_⟩
  rw [hc.v,hxi,← hma,Int.toNat_natCast]
end
def Lead (st : S2) (D : List Nat) : Prop :=
 match st.raw with
 | none => Within st.a D
 | some bs => ∀ i,i < bs.length → bitAt D i = bs.getD i 0
def Fol (st : S2) (a : AD) (raw : Option (List Nat × Nat)) (D : List Nat) : Prop :=
 match st.raw with
 | none => raw = none ∧ Follow st.a a D
 | some bs => raw = some (D,bs.length) ∧ a.p = st.a.p ∧ st.a = AE.begin st.a.p
theorem lead_back {st : S2} (h : S2Ok st) {s : Int × Nat} (hs : SymOk st.raw s) {D : List Nat} (hD : Dig D) (hl : Lead (st.put s) D) : Lead st D := by
 obtain ⟨a,raw⟩ := st
 obtain ⟨h1,h2,h3⟩ := h
 cases raw with
 | none =>
  obtain ⟨hb,hc⟩ := hs
  have hc := hc rfl
  simp only at h1 h2
  exact within_back h1 (c := s.1.toNat) (bit := s.2) (by omega) hD hl
 | some bs =>
  intro i hi
  have := hl i (by simp; omega)
  rw [this,getD_push,if_neg (by omega)]
theorem lead_puts : ∀ (l : List (Int × Nat)) {st : S2},S2Ok st → (∀ s ∈ l,SymOk st.raw s) → ∀ {D : List Nat},Dig D → Lead (st.puts l) D → Lead st D
 | [],st,_,_,D,_,hl => hl
 | s :: l,st,h,hs,D,hD,hl => by
  obtain ⟨a,_⟩ := put_st h (hs s (List.mem_cons_self ..))
  exact lead_back h (hs s (List.mem_cons_self ..)) hD (lead_puts l a (fun t ht => symOk_raw (hs t (List.mem_cons_of_mem _ ht)) (put_rawN st s).1) hD hl)
theorem lead_rst {st : S2} {D : List Nat} : Lead st.back D ↔ Lead st D := by
 obtain ⟨a,raw⟩ := st
 cases raw <;> exact Iff.rfl
theorem lead_run (m : MD) : ∀ (ls : List (List (Int × Nat))) (n : Nat) (st : S2),S2Ok st → (∀ l ∈ ls,∀ s ∈ l,SymOk st.raw s) → ∀ {D : List Nat},Dig D → Lead (segRun m n ls st).1 D → Lead st D
 | [],_,st,_,_,D,_,hl => hl
 | l :: r,n,st,h,hs,D,hD,hl => by
  have h0 : S2Ok (if m.rst = true ∧ rawOf m n = false then st.back else st) ∧ (Lead (if m.rst = true ∧ rawOf m n = false then st.back else st) D → Lead st D) ∧ (if m.rst = true ∧ rawOf m n = false then st.back else st).raw = st.raw := by
   split
   ·exact ⟨(back_st h).1,lead_rst.1,rfl⟩
   ·exact ⟨h,id,rfl⟩
  obtain ⟨a0,b0,c0⟩ := h0
  obtain ⟨a1,_⟩ := puts_st l a0 fun s hx => by rw [c0]; exact hs l (List.mem_cons_self ..) s hx
  refine b0 (lead_puts l a0 (fun s hx => by rw [c0]; exact hs l (List.mem_cons_self ..) s hx) hD (lead_run m r (n + 1) _ a1 (fun l' hl' s hx => symOk_raw (hs l' (List.mem_cons_of_mem _ hl') s hx) fun x => by rw [← c0]; exact (puts_raw l _).2 x) hD hl))
theorem lead_bytes {st : S2} (h : S2Ok st) : Lead st st.bytes := by
 obtain ⟨a,raw⟩ := st
 cases raw with
 | none =>
  have hl := h.ok.len
  simp only at hl
  have hd := h.ok.dig
  simp only at hd
  have e4 : (a.ds.drop (a.ds.length - 4)).length = 4 := by rw [List.length_drop]; omega
  have hlt := val_lt (hd.drop (a.ds.length - 4))
  rw [e4] at hlt
  have e : a.ds = a.ds.take (a.ds.length - 4) ++ dig4 (val (a.ds.drop (a.ds.length - 4))) := by
   have : dig4 (val (a.ds.drop (a.ds.length - 4))) = a.ds.drop (a.ds.length - 4) := by
    refine val_inj (dig4_dig (by simpa using hlt)) (hd.drop _) (by rw [dig4_len,e4]) (dig4_val _)
   rw [this,List.take_append_drop]
  exact within_term h.ok e (by simpa using hlt)
 | some bs => exact fun i hi => segOf_bit (h.bits bs rfl) i
theorem fol_step {st : S2} (h : S2Ok st) {s : Int × Nat} (hs : SymOk st.raw s) {D : List Nat} (hD : Dig D) {r : RS} (hf : Fol st r.a r.raw D) (hl : Lead (st.put s) D) :
  ∃ r',r.ask s.1 = (s.2 == 1,r') ∧ r'.l = r.l ++ [s] ∧ Fol (st.put s) r'.a r'.raw D := by
 obtain ⟨a,raw⟩ := st
 obtain ⟨d,rw',lg⟩ := r
 obtain ⟨h1,h2,h3⟩ := h
 obtain ⟨x,b⟩ := s
 obtain ⟨hb,hc⟩ := hs
 simp only at hb hc
 cases raw with
 | none =>
  obtain ⟨rfl,f⟩ := hf
  have hc := hc rfl
  simp only at h1 h2 f
  obtain ⟨g1,g2⟩ := follow_step h1 f (c := x.toNat) (bit := b) (by omega) hb hD hl
  have e : askA d none x = (b,d.next x.toNat,none) := by unfold askA; simp only [hc,and_self,if_true,g1]
  refine ⟨⟨d.next x.toNat,none,lg ++ [(x,b)]⟩,?_,rfl,rfl,g2⟩
  simp only [RS.ask,e]
 | some bs =>
  obtain ⟨rfl,p1,p2⟩ := hf
  have hbit := hl bs.length (by simp)
  rw [getD_push,if_pos rfl] at hbit
  have e : askA d (some (D,bs.length)) x = (b,d,some (D,bs.length + 1)) := by simp only [askA,hbit]
  refine ⟨⟨d,some (D,bs.length + 1),lg ++ [(x,b)]⟩,?_,rfl,by simp,p1,p2⟩
  simp only [RS.ask,e]
theorem run_play {α : Type} {D : List Nat} (hD : Dig D) : ∀ (t : Tr α) (l : List (Int × Nat)) (st : S2) (r : RS) (a : α),t.play (l.map symI) = some (a,[]) → S2Ok st → (∀ s ∈ l,SymOk st.raw s) → Lead (st.puts l) D → Fol st r.a r.raw D →
  ∃ r',t.run RS.ask r = (a,r') ∧ r'.l = r.l ++ l ∧ Fol (st.puts l) r'.a r'.raw D
 | .ret a,l,st,r,a',hp,_,_,_,hf => by
  simp only [Tr.play,Option.some.injEq,Prod.mk.injEq,List.map_eq_nil_iff] at hp
  obtain ⟨rfl,rfl⟩ := hp
  exact ⟨r,rfl,by simp,hf⟩
 | .ask c k,[],st,r,a',hp,_,_,_,_ => by simp [Tr.play] at hp
 | .ask c k,s :: l,st,r,a',hp,h,hs,hl,hf => by
  rw [List.map_cons,Tr.play] at hp
  split at hp
  case isFalse => cases hp
  rename_i hc
  obtain ⟨hc,hb⟩ := hc
  have hs0 := hs s (List.mem_cons_self ..)
  obtain ⟨h',_⟩ := put_st h hs0
  have hs' : ∀ t ∈ l,SymOk (st.put s).raw t := fun t ht => symOk_raw (hs t (List.mem_cons_of_mem _ ht)) (put_rawN st s).1
  obtain ⟨r1,e1,l1,f1⟩ := fol_step h hs0 hD hf (lead_puts l h' hs' hD hl)
  have hbb : ((symI s).2 == 1) = (s.2 == 1) := by
   have : s.2 < 2 := hs0.1
   simp only [symI]
   rcases Nat.lt_or_ge s.2 1 with q | q
   ·obtain q : s.2 = 0 := by omega
    rw [q]; rfl
   ·obtain q : s.2 = 1 := by omega
    rw [q]; rfl
  rw [hbb] at hp
  obtain ⟨r2,e2,l2,f2⟩ := run_play hD (k (s.2 == 1)) l (st.put s) r1 a' hp h' hs' hl f1
  refine ⟨r2,?_,by rw [l2,l1]; simp,f2⟩
  have hc' : c = s.1 := hc.symm
  rw [Tr.run_ask,hc',e1]
  exact e2
theorem pass_back {m : MD} {planes o j : Nat} {e d : BS} (h : DJ planes j e d) (hpl : planes ≤ 60) (h1 : 1 ≤ planes) (ho : o ≤ 3) (hj : j ≤ 3 * planes - 3) {st : S2} (hS : S2Ok st) {D : List Nat} (hD : Dig D)
  (hraw : st.raw = none → rawOf m j = false) {a : AD} {raw : Option (List Nat × Nat)} (hf : Fol st a raw D)
  (hl : Lead ((if m.rst = true ∧ rawOf m j = false then st.back else st).puts (runSt m e j planes o).out) D) :
  ∃ d' r,passR m planes o j a raw d = ((d',true),r) ∧ r.l = (runSt m e j planes o).out ∧ Fol ((if m.rst = true ∧ rawOf m j = false then st.back else st).puts (runSt m e j planes o).out) r.a r.raw D ∧
   (j + 1 ≤ 3 * planes - 3 → DJ planes (j + 1) (runSt m e j planes o).b d') := by
 obtain ⟨d',p1,_,_,p4⟩ := dj_step (m := m) h hpl h1 ho
 have hsy : ∀ s ∈ (runSt m e j planes o).out,SymOk st.raw s := by
  intro s hs
  obtain ⟨q1,q2,q3,q4⟩ := ok_runSt m e j planes o s hs
  refine ⟨by omega,fun hr => ?_⟩
  rw [hraw hr] at q4
  have : ¬ s.1 = -1 := fun x => by have := q4.1 x; simp at this
  omega
 have h0 : S2Ok (if m.rst = true ∧ rawOf m j = false then st.back else st) ∧ (if m.rst = true ∧ rawOf m j = false then st.back else st).raw = st.raw ∧
   Fol (if m.rst = true ∧ rawOf m j = false then st.back else st) (if m.rst = true ∧ rawOf m j = false then a.back else a) raw D := by
  by_cases hr : m.rst = true ∧ rawOf m j = false
  ·rw [if_pos hr,if_pos hr]
   refine ⟨(back_st hS).1,rfl,?_⟩
   obtain ⟨sa,sraw⟩ := st
   cases sraw with
   | none =>
    obtain ⟨f0,f⟩ := hf
    exact ⟨f0,by simp only [S2.back,AD.back,AE.setBack]; rw [f.p],f.rest,f.value,f.size⟩
   | some bs =>
    obtain ⟨f0,f1,f2⟩ := hf
    simp only at f1 f2
    refine ⟨f0,by simp only [S2.back,AD.back,AE.setBack]; rw [f1],?_⟩
    simp only [S2.back,AE.setBack]
    rw [f2]
    simp [AE.begin]
  ·rw [if_neg hr,if_neg hr]; exact ⟨hS,rfl,hf⟩
 obtain ⟨a0,b0,c0⟩ := h0
 obtain ⟨r,e1,l1,f1⟩ := run_play hD _ _ _ ⟨if m.rst = true ∧ rawOf m j = false then a.back else a,raw,[]⟩ _ p1 a0 (fun s hs => by rw [b0]; exact hsy s hs) hl c0
 refine ⟨d',r,?_,by simpa using l1,f1,p4⟩
 have hre : runErr j planes o = 0 := by unfold runErr; rw [if_neg (by omega),if_neg (by omega)]
 unfold passR dOut
 rw [if_pos hre]
 simp only [Int.toNat_natCast]
 exact e1
theorem passes_back {m : MD} {planes o : Nat} (hpl : planes ≤ 60) (h1 : 1 ≤ planes) (ho : o ≤ 3) {D : List Nat} (hD : Dig D) : ∀ (c j : Nat) (e : BS) (st : S2) (rd : Rdg),j + c ≤ 3 * planes - 2 → (j ≤ 3 * planes - 3 → DJ planes j e rd.b) → S2Ok st →
  (st.raw = none → ∀ i,i < c → rawOf m (j + i) = false) → Fol st rd.a rd.raw D → Lead (segRun m j (passesOf m planes o c j e) st).1 D →
  ∃ rd',passesR m planes o c j rd = rd' ∧ rd'.ls = rd.ls ++ passesOf m planes o c j e ∧ rd'.snd = rd.snd ∧ Fol (segRun m j (passesOf m planes o c j e) st).1 rd'.a rd'.raw D ∧ (j + c ≤ 3 * planes - 3 → DJ planes (j + c) (afterP m planes o c j e) rd'.b)
 | 0,j,e,st,rd,_,hd,_,_,hf,_ => ⟨rd,rfl,by simp [passesOf],rfl,hf,fun h => hd h⟩
 | c + 1,j,e,st,rd,hj,hd,hS,hraw,hf,hl => by
  have hraw0 : st.raw = none → rawOf m j = false := fun h => hraw h 0 (by omega)
  have hS0 : S2Ok (if m.rst = true ∧ rawOf m j = false then st.back else st) ∧ (if m.rst = true ∧ rawOf m j = false then st.back else st).raw = st.raw := by
   split
   ·exact ⟨(back_st hS).1,rfl⟩
   ·exact ⟨hS,rfl⟩
  have hsy : ∀ l ∈ passesOf m planes o (c + 1) j e,∀ s ∈ l,SymOk st.raw s := by
   intro l hl s hs
   obtain ⟨i,hi,rfl⟩ := List.getElem_of_mem hl
   obtain ⟨b',hb⟩ := passesOf_get m planes o (c + 1) j e i hi
   rw [hb] at hs
   rw [passesOf_len] at hi
   obtain ⟨q1,q2,q3,q4⟩ := ok_runSt m b' (j + i) planes o s hs
   refine ⟨by omega,fun hr => ?_⟩
   rw [hraw hr i hi] at q4
   have : ¬ s.1 = -1 := fun x => by have := q4.1 x; simp at this
   omega
  obtain ⟨hS1,_⟩ := puts_st (runSt m e j planes o).out hS0.1 fun s hs => by rw [hS0.2]; exact hsy _ (by rw [passesOf]; exact List.mem_cons_self ..) s hs
  have hr1 : ((if m.rst = true ∧ rawOf m j = false then st.back else st).puts (runSt m e j planes o).out).raw = none → st.raw = none := fun x => by rw [← hS0.2]; exact (puts_raw _ _).2 x
  have hr2 : st.raw = none → ((if m.rst = true ∧ rawOf m j = false then st.back else st).puts (runSt m e j planes o).out).raw = none := fun x => (puts_raw _ _).1 (by rw [hS0.2]; exact x)
  rw [passesOf,segRun] at hl
  have hl1 := lead_run m _ _ _ hS1 (fun l hl s hs => symOk_raw (hsy l (by rw [passesOf]; exact List.mem_cons_of_mem _ hl) s hs) hr1) hD hl
  obtain ⟨d',r,e1,l1,f1,nx⟩ := pass_back (m := m) (hd (by omega)) hpl h1 ho (by omega) hS hD hraw0 hf hl1
  have hre : runErr j planes o = 0 := by unfold runErr; rw [if_neg (by omega),if_neg (by omega)]
  have hsnd : sndR planes o j true rd.snd = rd.snd := by
   unfold sndR
   rw [if_neg]
   rw [dErr_16]; simp
  obtain ⟨rd',g1,g2,g3,g4,g5⟩ := passes_back hpl h1 ho hD c (j + 1) (runSt m e j planes o).b _ ⟨r.a,r.raw,d',rd.snd,rd.ls ++ [r.l]⟩ (by omega) (fun hh => nx (by omega)) hS1 (fun hh i hi => by
   have := hraw (hr1 hh) (i + 1) (by omega)
   rw [show j + 1 + i = j + (i + 1) by omega]; exact this) f1 hl
  refine ⟨rd',?_,?_,g3,?_,fun hh => ?_⟩
  ·rw [passesR]
   simp only [e1,hsnd]
   exact g1
  ·rw [g2,l1,passesOf]; simp
  ·rw [passesOf,segRun]; exact g4
  ·rw [show j + (c + 1) = j + 1 + c by omega]; exact g5 (by omega)
theorem passesOf_drop (m : MD) (planes o : Nat) : ∀ (N c k : Nat) (b : BS),c ≤ N → (passesOf m planes o N k b).drop c = passesOf m planes o (N - c) (k + c) (afterP m planes o c k b)
 | N,0,k,b,_ => by simp [afterP]
 | 0,c + 1,k,b,h => by omega
 | N + 1,c + 1,k,b,h => by
  rw [passesOf,List.drop_succ_cons,passesOf_drop m planes o N c (k + 1) _ (by omega),afterP]
  rw [show N + 1 - (c + 1) = N - c by omega,show k + (c + 1) = k + 1 + c by omega]
def BegOk (st : S2) : Prop := st.raw = none → st.a.begun = false → st.a.ds = [0,0,0,0]
theorem begOk_put {st : S2} (s : Int × Nat) : BegOk (st.put s) := by
 obtain ⟨a,raw⟩ := st
 intro h hb
 cases raw with
 | none => exact absurd hb (by simp [S2.put,AE.put])
 | some bs => simp [S2.put] at h
theorem begOk_puts : ∀ (l : List (Int × Nat)) {st : S2},BegOk st → BegOk (st.puts l)
 | [],_,h => h
 | s :: l,st,h => begOk_puts l (begOk_put s)
theorem begOk_run (m : MD) : ∀ (ls : List (List (Int × Nat))) (n : Nat) (st : S2),BegOk st → BegOk (segRun m n ls st).1
 | [],_,st,h => h
 | l :: r,n,st,h => by
  refine begOk_run m r (n + 1) _ (begOk_puts l ?_)
  split
  ·exact h
  ·exact h
theorem segRun_app (m : MD) : ∀ (x y : List (List (Int × Nat))) (n : Nat) (st : S2),segRun m n (x ++ y) st = ((segRun m (n + x.length) y (segRun m n x st).1).1,(segRun m n x st).2 ++ (segRun m (n + x.length) y (segRun m n x st).1).2)
 | [],y,n,st => by simp [segRun]
 | l :: x,y,n,st => by
  rw [List.cons_append,segRun,segRun_app m x y (n + 1)]
  simp only [segRun,List.length_cons,List.cons_append]
  rw [show n + 1 + x.length = n + (x.length + 1) by omega]
theorem segRun_last (m : MD) : ∀ (x : List (List (Int × Nat))) (n : Nat) (st : S2) (c : Nat),x.length = c + 1 → (segRun m n x st).2[c]? = some (segRun m n x st).1.size
 | [],_,_,_,h => by simp at h
 | [l],n,st,0,_ => rfl
 | [l],n,st,c + 1,h => by simp at h
 | l :: l' :: x,n,st,0,h => by simp at h
 | l :: l' :: x,n,st,c + 1,h => by
  have := segRun_last m (l' :: x) (n + 1) ((if m.rst = true ∧ rawOf m n = false then st.back else st).puts l) c (by simpa using h)
  rw [segRun]
  simp only [List.getElem?_cons_succ]
  exact this
theorem lead_take {st : S2} (h : S2Ok st) (hb : BegOk st) {D : List Nat} (hl : Lead st D) : Lead st (D.take st.size) := by
 obtain ⟨a,raw⟩ := st
 cases raw with
 | none =>
  show Within a _
  unfold S2.size
  simp only
  by_cases hg : a.begun = true
  ·rw [if_pos hg]; exact Within.take hl (Nat.le_refl _)
  ·rw [if_neg hg]
   have e := hb rfl (by simpa using hg)
   have := h.ok.s1
   simp only at e this
   unfold Within
   rw [e,List.take_zero,pad_nil]
   simp [val,List.replicate]; omega
 | some bs =>
  intro i hi
  rw [← hl i hi]
  unfold bitAt
  simp only [S2.size,List.getD_eq_getElem?_getD,List.getElem?_take]
  rw [if_pos (by omega)]
def Cutg : List Nat → List Nat → Prop
 | [],_ => True
 | _ :: _,[] => False
 | c' :: cs',c :: cs => (c' = c ∧ Cutg cs' cs) ∨ (1 ≤ c' ∧ c' < c ∧ cs' = [])
theorem Cutg.refl : ∀ gs : List Nat,Cutg gs gs
 | [] => trivial
 | _ :: gs => .inl ⟨rfl,Cutg.refl gs⟩
theorem encSegs_ext (m : MD) (ls : List (List (Int × Nat))) : ∀ (gs : List Nat) (n : Nat) (a : AE) (P D : List Nat),∃ P' D',encSegs m ls gs n a P D = (P ++ P',D ++ D')
 | [],n,a,P,D => ⟨[],[],by simp [encSegs]⟩
 | c :: cs,n,a,P,D => by
  obtain ⟨P',D',e⟩ := encSegs_ext m ls cs (n + c) _ (P ++ ((segRun m n ((ls.drop n).take c) ⟨a,if rawOf m n = true then some [] else none⟩).2.take (c - 1)).map (fun z => min (D.length + z) (D ++ (segRun m n ((ls.drop n).take c) ⟨a,if rawOf m n = true then some [] else none⟩).1.bytes).length) ++ [(D ++ (segRun m n ((ls.drop n).take c) ⟨a,if rawOf m n = true then some [] else none⟩).1.bytes).length]) _
  exact ⟨_,_,by rw [encSegs,e,List.append_assoc,List.append_assoc D,List.append_assoc P]⟩
theorem segs_back {m : MD} {planes o : Nat} (hpl : planes ≤ 60) (h1 : 1 ≤ planes) (ho : o ≤ 3) {ls : List (List (Int × Nat))} {PF DF : List Nat} (hls : ls.length = 3 * planes - 2) :
  ∀ (gs gs' : List Nat) (j : Nat) (a : AE) (P D : List Nat) (e : BS) (rd : Rdg),Cutg gs' gs → (∀ c ∈ gs,1 ≤ c) → SegOk m j gs → j + sumL gs ≤ ls.length → ls.drop j = passesOf m planes o (ls.length - j) j e → P.length = j → rd.ls.length = j →
   (j ≤ 3 * planes - 3 → DJ planes j e rd.b) → a.Ok → a.p.length = 19 → a = AE.begin a.p → rd.a.p = a.p → encSegs m ls gs j a P D = (PF,DF) →
   ∃ rd',segsR m planes o (PF.map Int.ofNat) DF gs' D.length rd = rd' ∧ rd'.ls = rd.ls ++ passesOf m planes o (sumL gs') j e ∧ rd'.snd = rd.snd
 | gs,[],j,a,P,D,e,rd,_,_,_,_,_,_,_,_,_,_,_,_,_ => ⟨rd,rfl,by simp [sumL,passesOf],rfl⟩
 | [],c' :: cs',j,a,P,D,e,rd,hc,_,_,_,_,_,_,_,_,_,_,_,_ => hc.elim
 | c :: cs,c' :: cs',j,a,P,D,e,rd,hc,hpos,hso,hsum,hdr,hP,hrl,hdj,ha,h19,hab,hap,henc => by
  obtain ⟨hso1,hso2⟩ := hso
  have hc1 := hpos c (List.mem_cons_self ..)
  simp only [sumL] at hsum
  rw [hls] at hsum hdr
  have htk : (ls.drop j).take c = passesOf m planes o c j e := by rw [hdr,passesOf_take _ _ _ _ _ _ _ (by omega)]
  rw [encSegs,htk] at henc
  generalize hst0 : (⟨a,if rawOf m j = true then some [] else none⟩ : S2) = st0 at henc
  have hS : S2Ok st0 := by
   subst hst0
   refine ⟨ha,h19,fun bs hbs => ?_⟩
   simp only at hbs
   split at hbs
   ·injection hbs with hbs; subst hbs; intro b hb; cases hb
   ·cases hbs
  have hraw : st0.raw = none → ∀ i,i < c → rawOf m (j + i) = false := fun hx i hi => by
   subst hst0
   cases hrw : rawOf m j with
   | true => rw [hrw] at hx; simp at hx
   | false => exact hso1 hrw i hi
  have hbg : BegOk st0 := by
   subst hst0
   intro _ _
   simp only
   rw [hab]; rfl
  have hsy : ∀ l ∈ passesOf m planes o c j e,∀ s ∈ l,SymOk st0.raw s := by
   intro l hl s hs
   obtain ⟨i,hi,rfl⟩ := List.getElem_of_mem hl
   obtain ⟨b',hb⟩ := passesOf_get m planes o c j e i hi
   rw [hb] at hs
   rw [passesOf_len] at hi
   obtain ⟨q1,q2,q3,q4⟩ := ok_runSt m b' (j + i) planes o s hs
   refine ⟨by omega,fun hr => ?_⟩
   rw [hraw hr i hi] at q4
   have : ¬ s.1 = -1 := fun x => by have := q4.1 x; simp at this
   omega
  obtain ⟨hS1,_⟩ := segRun_st m _ j _ hS hsy
  have hle := lead_bytes hS1
  have hbd : Dig (segRun m j (passesOf m planes o c j e) st0).1.bytes := bytes_st hS1
  have hzl := segRun_len m (passesOf m planes o c j e) j st0
  rw [passesOf_len] at hzl
  have start : ∀ D',Dig D' → Lead st0 D' → Fol st0 (if rawOf m rd.ls.length = true then { rd with raw := some (D',0) } else { rd with a := AD.start rd.a.p D',raw := none }).a (if rawOf m rd.ls.length = true then { rd with raw := some (D',0) } else { rd with a := AD.start rd.a.p D',raw := none }).raw D' := by
   intro D' hD' hL
   subst hst0
   rw [hrl]
   cases hrw : rawOf m j with
   | true =>
    simp only [if_true]
    exact ⟨rfl,hap,hab⟩
   | false =>
    rw [hrw] at hL
    simp only [Bool.false_eq_true,if_false] at hL ⊢
    refine ⟨rfl,?_⟩
    simp only
    rw [hap]
    have hL' : Within a D' := hL
    rw [hab] at hL' ⊢
    exact follow_start hL'
  have kb : ∀ D',(if rawOf m rd.ls.length = true then { rd with raw := some (D',0) } else { rd with a := AD.start rd.a.p D',raw := none }).b = rd.b ∧ (if rawOf m rd.ls.length = true then { rd with raw := some (D',0) } else { rd with a := AD.start rd.a.p D',raw := none }).ls = rd.ls ∧ (if rawOf m rd.ls.length = true then { rd with raw := some (D',0) } else { rd with a := AD.start rd.a.p D',raw := none }).snd = rd.snd := by
   intro D'; split <;> exact ⟨rfl,rfl,rfl⟩
  obtain ⟨P',D',ext⟩ := encSegs_ext m ls cs (j + c) (segRun m j (passesOf m planes o c j e) st0).1.after (P ++ ((segRun m j (passesOf m planes o c j e) st0).2.take (c - 1)).map (fun z => min (D.length + z) (D ++ (segRun m j (passesOf m planes o c j e) st0).1.bytes).length) ++ [(D ++ (segRun m j (passesOf m planes o c j e) st0).1.bytes).length]) (D ++ (segRun m j (passesOf m planes o c j e) st0).1.bytes)
  have ext' := henc.symm.trans ext
  injection ext' with eP eD
  rcases hc with ⟨rfl,hc⟩ | ⟨q1,q2,rfl⟩
  ·-- a whole segment
   have hend : ((PF.map Int.ofNat).getD (rd.ls.length + c' - 1) 0).toNat = (D ++ (segRun m j (passesOf m planes o c' j e) st0).1.bytes).length := by
    have hi : (P ++ ((segRun m j (passesOf m planes o c' j e) st0).2.take (c' - 1)).map (fun z => min (D.length + z) (D ++ (segRun m j (passesOf m planes o c' j e) st0).1.bytes).length)).length = rd.ls.length + c' - 1 := by
     rw [List.length_append,List.length_map,List.length_take,hzl,hP,hrl]; omega
    rw [List.getD_eq_getElem?_getD,List.getElem?_map,eP,List.append_assoc,List.getElem?_append_right (by omega),hi,Nat.sub_self]
    simp
    omega
   have hseg : segD DF D.length (D ++ (segRun m j (passesOf m planes o c' j e) st0).1.bytes).length = (segRun m j (passesOf m planes o c' j e) st0).1.bytes := by
    unfold segD
    rw [eD,List.take_left,List.drop_left]
   obtain ⟨k1,k2,k3⟩ := kb (segRun m j (passesOf m planes o c' j e) st0).1.bytes
   obtain ⟨rd',g1,g2,g3,g4,g5⟩ := passes_back hpl h1 ho hbd c' j e st0 (if rawOf m rd.ls.length = true then { rd with raw := some ((segRun m j (passesOf m planes o c' j e) st0).1.bytes,0) } else { rd with a := AD.start rd.a.p (segRun m j (passesOf m planes o c' j e) st0).1.bytes,raw := none })
    (by omega) (fun hh => by rw [k1]; exact hdj hh) hS hraw (start _ hbd (lead_run m _ _ _ hS hsy hbd hle)) hle
   rw [k2] at g2
   rw [k3] at g3
   obtain ⟨t1,t2⟩ := after_st hS1
   have haft : (segRun m j (passesOf m planes o c' j e) st0).1.after = AE.begin (segRun m j (passesOf m planes o c' j e) st0).1.after.p ∧ rd'.a.p = (segRun m j (passesOf m planes o c' j e) st0).1.after.p := by
    generalize (segRun m j (passesOf m planes o c' j e) st0).1 = st1 at g4
    obtain ⟨a1,raw1⟩ := st1
    cases raw1 with
    | none => exact ⟨rfl,g4.2.p⟩
    | some bs => exact ⟨g4.2.2,g4.2.1⟩
   obtain ⟨rd2,u1,u2,u3⟩ := segs_back hpl h1 ho hls cs cs' (j + c') (segRun m j (passesOf m planes o c' j e) st0).1.after _ (D ++ (segRun m j (passesOf m planes o c' j e) st0).1.bytes) (afterP m planes o c' j e) rd' hc (fun x hx => hpos x (List.mem_cons_of_mem _ hx)) hso2 (by omega)
    (by rw [← List.drop_drop,hdr,passesOf_drop _ _ _ _ _ _ _ (by omega),hls,Nat.sub_sub])
    (by rw [List.length_append,List.length_append,List.length_map,List.length_take,hzl,hP]; simp; omega) (by rw [g2,List.length_append,passesOf_len,hrl]) g5 t1 t2 haft.1 haft.2 henc
   refine ⟨rd2,?_,?_,by rw [u3,g3]⟩
   ·rw [segsR]
    simp only [hend,hseg]
    rw [hrl] at g1 ⊢
    rw [g1]
    exact u1
   ·rw [u2,g2,sumL,List.append_assoc]
    congr 1
    have hx := List.take_append_drop c' (passesOf m planes o (c' + sumL cs') j e)
    rw [passesOf_take _ _ _ _ _ _ _ (by omega),passesOf_drop _ _ _ _ _ _ _ (by omega),Nat.add_sub_cancel_left] at hx
    exact hx
  ·-- the last one,cut short
   have hx : passesOf m planes o c j e = passesOf m planes o c' j e ++ passesOf m planes o (c - c') (j + c') (afterP m planes o c' j e) := by
    have hx := List.take_append_drop c' (passesOf m planes o c j e)
    rw [passesOf_take _ _ _ _ _ _ _ (by omega),passesOf_drop _ _ _ _ _ _ _ (by omega)] at hx
    exact hx.symm
   have hsy' : ∀ l ∈ passesOf m planes o c' j e,∀ s ∈ l,SymOk st0.raw s := fun l hl => hsy l (by rw [hx]; exact List.mem_append_left _ hl)
   obtain ⟨hS2,_⟩ := segRun_st m _ j _ hS hsy'
   have happ := segRun_app m (passesOf m planes o c' j e) (passesOf m planes o (c - c') (j + c') (afterP m planes o c' j e)) j st0
   rw [← hx,passesOf_len] at happ
   have hrw2 : (segRun m j (passesOf m planes o c' j e) st0).1.raw = none → st0.raw = none := by
    have key : ∀ (ls : List (List (Int × Nat))) (n : Nat) (st : S2),(segRun m n ls st).1.raw = none → st.raw = none := by
     intro ls
     induction ls with
     | nil => intro n st h; exact h
     | cons l r ih =>
      intro n st h
      rw [segRun] at h
      have := (puts_raw _ _).2 (ih _ _ h)
      split at this
      ·exact this
      ·exact this
    exact key _ _ _
   have hle2 : Lead (segRun m j (passesOf m planes o c' j e) st0).1 (segRun m j (passesOf m planes o c j e) st0).1.bytes := by
    have h2 := hle
    conv at h2 => arg 1; rw [happ]
    simp only at h2
    exact lead_run m _ _ _ hS2 (fun l hl s hs => symOk_raw (hsy l (by rw [hx]; exact List.mem_append_right _ hl) s hs) hrw2) hbd h2
   have hle3 := lead_take hS2 (begOk_run m _ j _ hbg) hle2
   have hlast : (segRun m j (passesOf m planes o c j e) st0).2[c' - 1]? = some (segRun m j (passesOf m planes o c' j e) st0).1.size := by
    rw [happ]
    simp only
    have hl' := segRun_len m (passesOf m planes o c' j e) j st0
    rw [passesOf_len] at hl'
    rw [List.getElem?_append_left (by omega)]
    exact segRun_last m _ j st0 (c' - 1) (by rw [passesOf_len]; omega)
   have hend : ((PF.map Int.ofNat).getD (rd.ls.length + c' - 1) 0).toNat = min (D.length + (segRun m j (passesOf m planes o c' j e) st0).1.size) (D ++ (segRun m j (passesOf m planes o c j e) st0).1.bytes).length := by
    have hi : rd.ls.length + c' - 1 - P.length = c' - 1 := by omega
    rw [List.getD_eq_getElem?_getD,List.getElem?_map,eP,List.append_assoc,List.append_assoc,List.getElem?_append_right (by omega),hi,List.getElem?_append_left (by rw [List.length_map,List.length_take,hzl]; omega),List.getElem?_map,List.getElem?_take,if_pos (by omega),hlast]
    simp
    omega
   have hseg : segD DF D.length (min (D.length + (segRun m j (passesOf m planes o c' j e) st0).1.size) (D ++ (segRun m j (passesOf m planes o c j e) st0).1.bytes).length) = (segRun m j (passesOf m planes o c j e) st0).1.bytes.take (segRun m j (passesOf m planes o c' j e) st0).1.size := by
    unfold segD
    generalize (segRun m j (passesOf m planes o c j e) st0).1.bytes = B at *
    generalize (segRun m j (passesOf m planes o c' j e) st0).1.size = z at *
    rw [eD,List.take_append_of_le_length (by omega),List.length_append]
    have : min (D.length + z) (D.length + B.length) = D.length + min z B.length := by omega
    rw [this,List.take_length_add_append,List.drop_left]
    rw [← List.take_take,List.take_length]
   have hbd2 : Dig ((segRun m j (passesOf m planes o c j e) st0).1.bytes.take (segRun m j (passesOf m planes o c' j e) st0).1.size) := hbd.take _
   obtain ⟨k1,k2,k3⟩ := kb ((segRun m j (passesOf m planes o c j e) st0).1.bytes.take (segRun m j (passesOf m planes o c' j e) st0).1.size)
   obtain ⟨rd',g1,g2,g3,g4,g5⟩ := passes_back hpl h1 ho hbd2 c' j e st0 (if rawOf m rd.ls.length = true then { rd with raw := some ((segRun m j (passesOf m planes o c j e) st0).1.bytes.take (segRun m j (passesOf m planes o c' j e) st0).1.size,0) } else { rd with a := AD.start rd.a.p ((segRun m j (passesOf m planes o c j e) st0).1.bytes.take (segRun m j (passesOf m planes o c' j e) st0).1.size),raw := none })
    (by omega) (fun hh => by rw [k1]; exact hdj hh) hS (fun hh i hi => hraw hh i (by omega)) (start _ hbd2 (lead_run m _ _ _ hS hsy' hbd2 hle3)) hle3
   rw [k2] at g2
   rw [k3] at g3
   refine ⟨rd',?_,by rw [g2]; simp [sumL],g3⟩
   rw [segsR,segsR]
   simp only [hend,hseg]
   rw [hrl] at g1 ⊢
   rw [g1]
theorem symRes_full {xs : List Int} {w hh o : Int} {m : MD} (h0 : (symRes xs w hh o m).1 = 0) : 1 ≤ w ∧ w ≤ 64 ∧ 1 ≤ hh ∧ hh ≤ 64 ∧ xs.length = w.toNat * hh.toNat ∧ 0 ≤ o ∧ o ≤ 3 ∧ planesOf xs ≤ 60 ∧
  (symRes xs w hh o m).2 = passesOf m (planesOf xs) o.toNat (3 * planesOf xs - 2) 0 (fillTo w.toNat hh.toNat xs xs.length) := by
 unfold symRes at h0 ⊢
 split at h0
 ·simp at h0
 ·rename_i hsz
  split at h0
  ·simp at h0
  ·rename_i hln
   split at h0
   ·simp at h0
   ·rename_i ho
    split at h0
    ·rename_i hb
     have hp := inR_planes.1 hb
     rw [if_neg hsz,if_neg hln,if_neg ho,if_pos hb]
     simp only [Bool.not_eq_false,sized,decide_eq_true_eq] at hsz
     simp only [ne_eq,Decidable.not_not] at hln
     obtain ⟨w,rfl⟩ := Int.eq_ofNat_of_zero_le (show 0 ≤ w by omega)
     obtain ⟨hh,rfl⟩ := Int.eq_ofNat_of_zero_le (show 0 ≤ hh by omega)
     rw [← Int.natCast_mul] at hln
     refine ⟨by omega,by omega,by omega,by omega,?_,by omega,by omega,hp,rfl⟩
     simp only [Int.toNat_natCast]
     omega
    ·simp at h0
theorem toI_std (l : List (List (Int × Nat))) : l.map toI = stdI l := rfl
theorem vgo_nat : ∀ (ps : List Nat) (l : Nat),vgo (ps.map Int.ofNat) (l : Int) = (vgoN ps l).map Int.ofNat
 | [],l => rfl
 | x :: ps,l => by
  simp only [List.map_cons,vgo,vgoN]
  by_cases h : x < l
  ·rw [if_pos h,if_pos (by simp; omega)]; rfl
  ·rw [if_neg h,if_neg (by simp; omega)]; exact vgo_nat ps x
section
variable {xs : List Int} {w hh o : Int} {m : MD}
theorem enc_valid (h0 : (encRes xs w hh o m).1 = 0) : validP (planesOf xs) ((encRes xs w hh o m).2.ps.map Int.ofNat) ((encRes xs w hh o m).2.ds.map Int.ofNat) = 0 := by
 obtain ⟨_,hp,hpl,hps,hv,hd,hdl⟩ := encRes_facts.2 h0
 unfold validP
 rw [if_neg (by omega),if_neg (by rw [List.length_map,hps]; omega)]
 have := vgo_nat (encRes xs w hh o m).2.ps 0
 rw [hv] at this
 rw [show ((0 : Nat) : Int) = 0 from rfl] at this
 rw [this]
 simp
 omega
theorem read_back (h0 : (encRes xs w hh o m).1 = 0) {n : Nat} (hn : n ≤ 3 * planesOf xs - 2) (hc : Cutg (segsOf m n) (segsOf m (3 * planesOf xs - 2))) :
  (readP m (planesOf xs) o ((encRes xs w hh o m).2.ps.map Int.ofNat) (encRes xs w hh o m).2.ds n w.toNat hh.toNat).ls = passesOf m (planesOf xs) o.toNat n 0 (fillTo w.toNat hh.toNat xs xs.length) ∧
  (readP m (planesOf xs) o ((encRes xs w hh o m).2.ps.map Int.ofNat) (encRes xs w hh o m).2.ds n w.toNat hh.toNat).snd = n := by
 obtain ⟨hs0,hp,hpl,hps,hv,hd,hdl⟩ := encRes_facts.2 h0
 obtain ⟨w1,w2,h1,h2,hl,o0,o1,_,hsym⟩ := symRes_full hs0
 have hN : (symRes xs w hh o m).2.length = 3 * planesOf xs - 2 := by rw [hsym,passesOf_len]
 obtain ⟨g1,g2,g3⟩ := segs_sum (m := m) (n := n) (by omega)
 obtain ⟨G1,G2,G3⟩ := segs_sum (m := m) (n := 3 * planesOf xs - 2) (by omega)
 have he : encSegs m (symRes xs w hh o m).2 (segsOf m (3 * planesOf xs - 2)) 0 (AE.begin (AE.base 19)) [] [] = ((encRes xs w hh o m).2.ps,(encRes xs w hh o m).2.ds) := by
  rw [← hN]
  unfold encRes at h0 ⊢
  simp only [ne_eq,hs0,not_true_eq_false,if_false] at h0 ⊢
  split at h0
  ·simp at h0
  ·rename_i hb
   rw [if_neg hb]
 by_cases hp1 : planesOf xs = 0
 ·obtain rfl : n = 0 := by omega
  unfold readP
  have e : segsOf m 0 = [] := by unfold segsOf; rw [if_pos (by omega)]
  rw [e]
  exact ⟨rfl,rfl⟩
 have hst := start_of (w := w.toNat) (h := hh.toNat) (by omega) (by omega) (by omega) (by omega) hl hp (by omega)
 obtain ⟨rd',r1,r2,r3⟩ := segs_back (m := m) (planes := planesOf xs) (o := o.toNat) hp (by omega) (by omega) (PF := (encRes xs w hh o m).2.ps) (DF := (encRes xs w hh o m).2.ds) hN (segsOf m (3 * planesOf xs - 2)) (segsOf m n) 0 (AE.begin (AE.base 19)) [] []
  (fillTo w.toNat hh.toNat xs xs.length) ⟨⟨AE.base 19,[],0,0⟩,none,newBS w.toNat hh.toNat,(n : Int),[]⟩ hc (fun c hc => (G3 c hc).1) (segOk_all m _) (by rw [hN]; omega) (by rw [hN,List.drop_zero,hsym]; rfl) rfl rfl
  (fun _ => hst) (begin_ok (base_ok 19)) (by simp [AE.begin,AE.base]) rfl rfl he
 have ho : ((o.toNat : Nat) : Int) = o := by omega
 rw [ho] at r1
 unfold readP
 rw [List.length_nil] at r1
 rw [r1]
 refine ⟨?_,r3⟩
 rw [r2,g1]; rfl
end
theorem sgGo_cutg {m : MD} : ∀ (f F sz l L : Nat),1 ≤ sz → l ≤ L → l ≤ f → L ≤ F → Cutg (sgGo m f sz l) (sgGo m F sz L)
 | 0,F,sz,l,L,_,_,hf,_ => by simp [sgGo,Cutg]
 | f + 1,F,sz,l,L,hs,hl,hf,hF => by
  unfold sgGo
  by_cases h0 : l = 0
  ·rw [if_pos h0]; trivial
  ·rw [if_neg h0]
   cases F with
   | zero => omega
   | succ F =>
    simp only
    rw [if_neg (by omega)]
    by_cases hlt : l < sz
    ·have e1 : min sz l = l := by omega
     rw [e1,Nat.sub_self]
     have e0 : sgGo m f (sgNext m sz) 0 = [] := by cases f <;> simp [sgGo]
     rw [e0]
     by_cases he : l = min sz L
     ·exact .inl ⟨he,trivial⟩
     ·exact .inr ⟨by omega,by omega,rfl⟩
    ·have e1 : min sz l = sz := by omega
     have e2 : min sz L = sz := by omega
     rw [e1,e2]
     exact .inl ⟨rfl,sgGo_cutg f F (sgNext m sz) (l - sz) (L - sz) (sgNext_pos hs) (by omega) (by omega) (by omega)⟩
theorem segs_cutg {m : MD} {n N : Nat} (h : n ≤ N) (hN : N ≤ 178) : Cutg (segsOf m n) (segsOf m N) := by
 unfold segsOf
 by_cases h0 : n < 1
 ·rw [if_pos (.inl h0)]; trivial
 ·rw [if_neg (by omega),if_neg (by omega)]
  by_cases hr : m.res = true
  ·have e : ∀ k,sgFirst m k = 1 := fun k => by unfold sgFirst; rw [if_pos hr]
   rw [e,e]
   exact sgGo_cutg n N 1 n N (by omega) h (by omega) (by omega)
  ·by_cases hb : m.byp = true
   ·have e : ∀ k,sgFirst m k = 10 := fun k => by unfold sgFirst; rw [if_neg hr,if_pos hb]
    rw [e,e]
    exact sgGo_cutg n N 10 n N (by omega) h (by omega) (by omega)
   ·have e : ∀ k,sgFirst m k = k := fun k => by unfold sgFirst; rw [if_neg hr,if_neg hb]
    rw [e,e]
    have g : ∀ k,1 ≤ k → sgGo m k k k = [k] := fun k hk => by
     cases k with
     | zero => omega
     | succ k =>
      unfold sgGo
      rw [if_neg (by omega),Nat.min_self,Nat.sub_self]
      have e0 : ∀ z,sgGo m k z 0 = [] := fun z => by cases k <;> simp [sgGo]
      rw [e0]
    rw [g n (by omega),g N (by omega)]
    by_cases he : n = N
    ·exact .inl ⟨he,trivial⟩
    ·exact .inr ⟨by omega,by omega,rfl⟩
theorem afterP_snoc (m : MD) (planes o : Nat) : ∀ (n k : Nat) (b : BS),afterP m planes o (n + 1) k b = (runSt m (afterP m planes o n k b) (k + n) planes o).b
 | 0,k,b => rfl
 | n + 1,k,b => by
  rw [afterP,afterP_snoc m planes o n (k + 1),afterP]
  rw [show k + 1 + n = k + (n + 1) by omega]
theorem ref1_t {P : PP} {σ : ES} (hg : σ.b.Good) {x y : Int} (hi : σ.b.inb x y) : ∀ x' y',(σ.b.get x' y').t = true → ((σ.ref1 P x y).b.get x' y').t = true := by
 intro x' y' ht
 unfold ES.ref1
 split
 ·exact ht
 ·have g1 := hg.upd hi kv_refine
  show (((σ.b.upd x y refine').upd x y (touch true)).get x' y').t = true
  rw [BS.get_upd g1.ok hi]
  split
  ·rfl
  ·rename_i hx
   rw [BS.get_upd hg.ok hi,if_neg hx]; exact ht
theorem refs_t {P : PP} : ∀ {l : List (Int × Int)} {σ : ES},σ.b.Good → AllIn σ.b l → ∀ x' y',(σ.b.get x' y').t = true → ((σ.refs P l).b.get x' y').t = true
 | [],σ,_,_,_,_,ht => ht
 | p :: l,σ,hg,ha,x',y',ht => by
  have hl := le_ref1 (P := P) hg (ha p (by simp))
  exact refs_t (P := P) (l := l) (σ := σ.ref1 P p.1 p.2) hl.good (AllIn.le (fun q hq => ha q (by simp [hq])) hl) x' y' (ref1_t hg (ha p (by simp)) x' y' ht)
section
variable {xs : List Int} {w h : Nat} {o : Int} {m : MD}
def tAt (m : MD) (planes o n : Nat) (b : BS) (w i : Nat) : Bool := ((afterP m planes o n 0 b).get ((i % w : Nat) : Int) ((i / w : Nat) : Int)).t
theorem touched_law (w1 : 1 ≤ w) (w2 : w ≤ 64) (h1 : 1 ≤ h) (h2 : h ≤ 64) (hl : xs.length = w * h) (hp : planesOf xs ≤ 60) (ho : 0 ≤ o ∧ o ≤ 3) {n : Nat} (hn : n ≤ 3 * planesOf xs - 2) :
  ∀ i,i < xs.length → (valRes (stdI (passesOf m (planesOf xs) o.toNat n 0 (fillTo w h xs xs.length))) (planesOf xs) w h o m).2.2[i]? = some (leftOf (planesOf xs) n (tAt m (planesOf xs) o.toNat n (fillTo w h xs xs.length) w i)) := by
 intro i hi
 by_cases hn0 : n = 0
 ·subst hn0
  obtain ⟨d,e,hd,_⟩ := prefix_law (m := m) w1 w2 h1 h2 hl hp ho (n := 0) (by omega)
  have hlo : ∀ t,leftOf (planesOf xs : Int) 0 t = planesOf xs := fun t => by simp [leftOf]
  rw [e]
  simp only [hlo]
  rw [List.getElem?_map,List.getElem?_eq_getElem (by omega)]; rfl
 ·have hp1 : 1 ≤ planesOf xs := by omega
  obtain ⟨d',q1,q2,q3,q5,q6,q7,_⟩ := dj_loop (m := m) hp hp1 (show o.toNat ≤ 3 by omega) n 0 _ _ (start_of w1 w2 h1 h2 hl hp hp1) (by omega) (by omega)
  have q1' : vLoop m (planesOf xs) o.toNat 0 (newBS w h) (stdI (passesOf m (planesOf xs) o.toNat n 0 (fillTo w h xs xs.length))) = (d',0) := q1
  have hlen : (stdI (passesOf m (planesOf xs) o.toNat n 0 (fillTo w h xs xs.length))).length = n := by simp [stdI,passesOf_len]
  have herr : valErr n (planesOf xs) w h o = 0 := by
   unfold valErr sized
   rw [if_neg (by simp; omega),if_neg (by omega),if_neg (by omega)]
  unfold valRes
  rw [hlen,herr,if_neg (by simp)]
  simp only [Int.toNat_natCast]
  rw [q1',if_neg (by simp)]
  simp only
  have hdw : d'.w = w := by rw [q2.w,q5]; rfl
  have hdh : d'.h = h := by rw [q2.h,q6]; rfl
  have hget := get_idx q3.ok (i := i) (by rw [hdw,hdh]; omega)
  rw [List.getElem?_map,hget,hdw]
  simp only [Option.map_some]
  rw [(q2.c ((i % w : Nat) : Int) ((i / w : Nat) : Int)).t]
  rfl
theorem left_mono (w1 : 1 ≤ w) (w2 : w ≤ 64) (h1 : 1 ≤ h) (h2 : h ≤ 64) (hl : xs.length = w * h) (hp : planesOf xs ≤ 60) (ho : 0 ≤ o ∧ o ≤ 3) {n : Nat} (hn : n < 3 * planesOf xs - 2) (i : Nat) :
  leftOf (planesOf xs) (n + 1) (tAt m (planesOf xs) o.toNat (n + 1) (fillTo w h xs xs.length) w i) ≤ leftOf (planesOf xs) n (tAt m (planesOf xs) o.toNat n (fillTo w h xs xs.length) w i) := by
 have hp1 : 1 ≤ planesOf xs := by omega
 by_cases hn0 : n = 0
 ·subst hn0
  have hlo : ∀ t,leftOf (planesOf xs : Int) 0 t = planesOf xs := fun t => by simp [leftOf]
  rw [hlo,leftOf_pos (by omega)]
  have : kindOf (0 + 1 - 1) = 2 := by simp [kindOf]
  rw [this]
  simp
  omega
 ·rw [leftOf_pos hn0,leftOf_pos (show n + 1 ≠ 0 by omega),Nat.add_sub_cancel]
  obtain ⟨p1,p2⟩ := planes_next (j := n - 1)
  rw [Nat.sub_add_cancel (show 1 ≤ n by omega)] at p1 p2
  rcases kind_next (n - 1) with ⟨k0,kn⟩ | ⟨k0,kn⟩ | ⟨k0,kn⟩
  ·rw [Nat.sub_add_cancel (show 1 ≤ n by omega)] at kn
   rw [p1 (by omega),k0,kn]
   obtain ⟨d',q1,q2,q3,q5,q6,q7,q8⟩ := dj_loop (m := m) hp hp1 (show o.toNat ≤ 3 by omega) n 0 _ _ (start_of w1 w2 h1 h2 hl hp hp1) (by omega) (by omega)
   have dj := q8 (by omega)
   rw [Nat.zero_add] at dj
   have hrun : runSt m (afterP m (planesOf xs) o.toNat n 0 (fillTo w h xs xs.length)) n (planesOf xs) o.toNat = ES.refs (runPP m n (planesOf xs) o.toNat) ⟨afterP m (planesOf xs) o.toNat n 0 (fillTo w h xs xs.length),[]⟩ (scan (afterP m (planesOf xs) o.toNat n 0 (fillTo w h xs xs.length)).w (afterP m (planesOf xs) o.toNat n 0 (fillTo w h xs xs.length)).h) := by
    unfold runSt; rw [if_neg (by omega),if_pos kn]
   have hmono : tAt m (planesOf xs) o.toNat n (fillTo w h xs xs.length) w i = true → tAt m (planesOf xs) o.toNat (n + 1) (fillTo w h xs xs.length) w i = true := by
    intro ht
    unfold tAt at ht ⊢
    rw [afterP_snoc,Nat.zero_add,hrun]
    exact refs_t (σ := ⟨_,[]⟩) dj.ge (scanIn _) _ _ ht
   cases ha : tAt m (planesOf xs) o.toNat n (fillTo w h xs xs.length) w i
   ·cases tAt m (planesOf xs) o.toNat (n + 1) (fillTo w h xs xs.length) w i <;> simp <;> omega
   ·rw [hmono ha]; simp
  ·rw [Nat.sub_add_cancel (show 1 ≤ n by omega)] at kn
   rw [p1 (by omega),kn]
   cases tAt m (planesOf xs) o.toNat n (fillTo w h xs xs.length) w i <;> simp <;> split <;> omega
  ·rw [p2 k0,k0]
   have : ((planeOf (n - 1) + 1 : Nat) : Int) = planeOf (n - 1) + 1 := by omega
   rw [this]
   simp
   split <;> omega
end
section
variable {xs : List Int} {w hh o : Int} {m : MD}
theorem dec_pre (h0 : (encRes xs w hh o m).1 = 0) {n : Nat} (hn : n ≤ 3 * planesOf xs - 2) :
  decP m (planesOf xs) ((encRes xs w hh o m).2.ps.map Int.ofNat) (encRes xs w hh o m).2.ds n w hh o = valRes (stdI (passesOf m (planesOf xs) o.toNat n 0 (fillTo w.toNat hh.toNat xs xs.length))) (planesOf xs) w.toNat hh.toNat o m := by
 obtain ⟨hs0,hp,hpl,hps,hv,hd,hdl⟩ := encRes_facts.2 h0
 obtain ⟨w1,w2,h1,h2,hl,o0,o1,_,hsym⟩ := symRes_full hs0
 have hc : checkP (planesOf xs) ((encRes xs w hh o m).2.ps.map Int.ofNat) ((encRes xs w hh o m).2.ds.map Int.ofNat) n w hh o = 0 := by
  unfold checkP
  rw [enc_valid h0,if_neg (by simp),if_neg (by rw [List.length_map]; omega),if_neg (by omega)]
 obtain ⟨r1,_⟩ := read_back h0 hn (segs_cutg hn (by omega))
 have hw : ((w.toNat : Nat) : Int) = w := by omega
 have hh' : ((hh.toNat : Nat) : Int) = hh := by omega
 unfold decP
 rw [hc,Int.toNat_natCast,r1,toI_std,hw,hh']
 simp only [ne_eq,not_true_eq_false,if_false]
theorem prefixes_law (h0 : (encRes xs w hh o m).1 = 0) {n : Nat} (hn : n < 3 * planesOf xs - 2) :
  ∃ vs ls vs' ls',decP m (planesOf xs) ((encRes xs w hh o m).2.ps.map Int.ofNat) (encRes xs w hh o m).2.ds n w hh o = (0,vs,ls) ∧ decP m (planesOf xs) ((encRes xs w hh o m).2.ps.map Int.ofNat) (encRes xs w hh o m).2.ds ((n + 1 : Nat) : Int) w hh o = (0,vs',ls') ∧
   vs.length = xs.length ∧ ls.length = xs.length ∧ ls'.length = xs.length ∧ vs'.length = xs.length ∧ ∀ i (h1 : i < xs.length) (h2 : i < vs.length) (h3 : i < ls.length) (h4 : i < ls'.length),0 ≤ ls[i] ∧ ls[i] ≤ planesOf xs ∧ ls'[i] ≤ ls[i] ∧ vs[i] = cutv ls[i].toNat xs[i] := by
 obtain ⟨hs0,hp,hpl,hps,hv,hd,hdl⟩ := encRes_facts.2 h0
 obtain ⟨w1,w2,h1,h2,hl,o0,o1,_,hsym⟩ := symRes_full hs0
 obtain ⟨d,e,dl,hall⟩ := prefix_law (m := m) (o := o) (w := w.toNat) (h := hh.toNat) (by omega) (by omega) (by omega) (by omega) hl hp ⟨o0,o1⟩ (n := n) (by omega)
 obtain ⟨d',e',dl',_⟩ := prefix_law (m := m) (o := o) (w := w.toNat) (h := hh.toNat) (by omega) (by omega) (by omega) (by omega) hl hp ⟨o0,o1⟩ (n := n + 1) (by omega)
 have t1 := touched_law (m := m) (o := o) (w := w.toNat) (h := hh.toNat) (by omega) (by omega) (by omega) (by omega) hl hp ⟨o0,o1⟩ (n := n) (by omega)
 have t2 := touched_law (m := m) (o := o) (w := w.toNat) (h := hh.toNat) (by omega) (by omega) (by omega) (by omega) hl hp ⟨o0,o1⟩ (n := n + 1) (by omega)
 have hm := left_mono (m := m) (o := o) (w := w.toNat) (h := hh.toNat) (by omega) (by omega) (by omega) (by omega) hl hp ⟨o0,o1⟩ hn
 refine ⟨_,_,_,_,(dec_pre h0 (by omega)).trans e,(dec_pre h0 (by omega)).trans e',by simp [dl],by simp [dl],by simp [dl'],by simp [dl'],fun i i1 i2 i3 i4 => ?_⟩
 rw [e] at t1
 rw [e'] at t2
 have a1 := t1 i i1
 have a2 := t2 i i1
 simp only at a1 a2
 rw [List.getElem?_eq_getElem i3] at a1
 rw [List.getElem?_eq_getElem i4] at a2
 have a1 := Option.some.inj a1
 have a2 := Option.some.inj a2
 obtain ⟨b1,b2,b3⟩ := hall i i1 (by omega)
 have hm := hm i
 rw [← a1,← a2] at hm
 simp only [List.getElem_map] at hm ⊢
 exact ⟨b1,b2,hm,b3⟩
end
theorem cut_neg {k : Nat} (hk : k ≤ 62) {v : Int} (h1 : -1152921504606846976 < v) (h2 : v < 0) :
  IntKind.i64.wrap (-(shlI .i64 (shrI .i64 (-v) (k : Int)) (k : Int))) = cutv k v ∧ 0 ≤ IntKind.i64.wrap (-v) ∧ IntKind.i64.wrap (-v) = -v := by
 obtain ⟨n,hn⟩ := Int.eq_ofNat_of_zero_le (show 0 ≤ -v by omega)
 have hv : v.natAbs = n := by omega
 have hle := cutN_le k n
 have hw : IntKind.i64.wrap (-v) = -v := wrapI (by omega) (by omega)
 refine ⟨?_,by rw [hw]; omega,hw⟩
 rw [hn,shrN (by show k ≤ 64; omega)]
 unfold shlI
 rw [Int.toNat_natCast,Nat.min_eq_left (by show k ≤ 64; omega),show ((n / 2 ^ k : Nat) : Int) * 2 ^ k = ((cutN k n : Nat) : Int) by unfold cutN; simp]
 rw [show IntKind.i64.wrap ((cutN k n : Nat) : Int) = ((cutN k n : Nat) : Int) from wrapN (by omega)]
 rw [wrapI (by omega) (by omega)]
 unfold cutv
 rw [if_pos h2,hv]
theorem cut_pos {k : Nat} (hk : k ≤ 62) {v : Int} (h1 : 0 ≤ v) (h2 : v < 1152921504606846976) : shlI .i64 (shrI .i64 v (k : Int)) (k : Int) = cutv k v := by
 obtain ⟨n,hn⟩ := Int.eq_ofNat_of_zero_le h1
 have hv : v.natAbs = n := by omega
 have hle := cutN_le k n
 rw [hn,shrN (by show k ≤ 64; omega)]
 unfold shlI
 rw [Int.toNat_natCast,Nat.min_eq_left (by show k ≤ 64; omega),show ((n / 2 ^ k : Nat) : Int) * 2 ^ k = ((cutN k n : Nat) : Int) by unfold cutN; simp]
 rw [show IntKind.i64.wrap ((cutN k n : Nat) : Int) = ((cutN k n : Nat) : Int) from wrapN (by omega)]
 unfold cutv
 rw [if_neg (by omega),Int.natAbs_natCast]
set_option maxRecDepth 10000
theorem ints_rk {h : Heap} {s : Value} {xs : List Int} (r : Rk .i64 h s xs) : Ints h s xs := by
 refine ⟨r.sl,r.sb,r.bl,fun v hv => ?_⟩
 have := r.rng v hv
 simp [Lit.wf,IntKind.min,IntKind.max,IntKind.signed,IntKind.bits] at this
 omega
section
variable {h : Heap} {R : Value → Heap → Prop} {k : List RItem} {s v1 y1 y2 pv dv : Value} {xs vs ls ls' : List Int} {pl : Int} {x1 x2 x3 x4 x5 : Bool}
theorem cut_c {v : Int} (hv : inR v) {k : Nat} (hk : k ≤ 60) : Ret tab 25 [.int .i64 v,.int .i64 k] h R = R (.int .i64 (cutv k v)) h := by
 have hku : IntKind.u64.wrap (k : Int) = k := by rw [IntKind.wrap_u64]; omega
 have hk0 : ¬ ((k : Int) < 0) := by omega
 have hk1 : ¬ ((60 : Int) < (k : Int)) := by omega
 unfold inR at hv
 rw [enter25,B25]
 by_cases hn : v < 0
 ·obtain ⟨k1,k2,k3⟩ := cut_neg (k := k) (by omega) hv.1 hn
  simp [k_guard,k_guardU,hn,hku,hk0,hk1,k3,k1,fin25]
 ·have k1 := cut_pos (k := k) (by omega) (by omega) hv.2
  simp [k_guard,k_guardU,hn,hku,hk0,hk1,k1,fin25]
set_option maxHeartbeats 1000000 in
theorem pre_loop {X : Nat} (hs : Sl h 1 s xs.length (i64s xs)) (hv : Sl h 1 v1 vs.length (i64s vs)) (hb : Sl h 1 y1 ls.length (i64s ls)) (hd : Sl h 1 y2 ls'.length (i64s ls')) (q1 : vs.length = xs.length) (q2 : ls.length = xs.length) (q3 : ls'.length = xs.length)
  (hX : blk? h X = some ⟨false,[.int .i64 pl,pv,dv]⟩) (hl : xs.length ≤ 144) (hr : ∀ v ∈ xs,inR v) (hpl : pl ≤ 60)
  (hall : ∀ i (h1 : i < xs.length) (h2 : i < vs.length) (h3 : i < ls.length) (h4 : i < ls'.length),0 ≤ ls[i] ∧ ls[i] ≤ pl ∧ ls'[i] ≤ ls[i] ∧ vs[i] = cutv ls[i].toNat xs[i])
  (hk : ∀ (K0 K1 K2 K3 K4 K5 K6 K7 K8 K9 Ka Kb Kc Kd Ke Kf Kg Kh Ki Kj Kk Kl Km Kn Ko Kp Kq Kr Ks Kt Ku Kv Kw Kx Ky Kz J0 J1 J2 J3 J4 J5 J6 J7 J8 J9 Ja Jb Jc Jd Je Jf Jg Jh Ji Jj Jk Jl Jm Jn Jo Jp Jq Jr Js Jt Ju Jv Jw Jx Jy Jz Y0 Y1 Y2 Y3 Y4 Y5 Y6 Y7 Y8 Y9 Ya Yb Yc Yd Ye Yf Yg Yh Yi Yj Yk Yl Ym Yn Yo Yp Yq Yr Ys Yt Yu Yv Yw Yx Yy Yz Z0 Z1 Z2 Z3 Z4 Z5 Z6 Z7 Z8 Z9 Za Zb Zc Zd Ze Zf Zg Zh Zi Zj Zk Zl Zm Zn Zo Zp Zq Zr Zs Zt Zu Zv Zw Zx Zy Zz K0q K1q K2q K3q K4q K5q K6q K7q K8q : Value),Ok tab R7 k #[K0,K1,K2,K3,K4,K5,K6,K7,K8,K9,Ka,Kb,Kc,Kd,Ke,Kf,Kg,Kh,Ki,Kj,Kk,Kl,Km,Kn,Ko,Kp,Kq,Kr,Ks,Kt,Ku,Kv,Kw,Kx,Ky,Kz,J0,J1,J2,J3,J4,J5,J6,J7,J8,J9,Ja,Jb,Jc,Jd,Je,Jf,Jg,Jh,Ji,Jj,Jk,Jl,Jm,Jn,Jo,Jp,Jq,Jr,Js,Jt,Ju,Jv,Jw,Jx,Jy,Jz,Y0,Y1,Y2,Y3,Y4,Y5,Y6,Y7,Y8,Y9,Ya,Yb,Yc,Yd,Ye,Yf,Yg,Yh,Yi,Yj,Yk,Yl,Ym,Yn,Yo,Yp,Yq,Yr,Ys,Yt,Yu,Yv,Yw,Yx,Yy,Yz,Z0,Z1,Z2,Z3,Z4,Z5,Z6,Z7,Z8,Z9,Za,Zb,Zc,Zd,Ze,Zf,Zg,Zh,Zi,Zj,Zk,Zl,Zm,Zn,Zo,Zp,Zq,Zr,Zs,Zt,Zu,Zv,Zw,Zx,Zy,Zz,K0q,K1q,K2q,K3q,K4q,K5q,K6q,K7q,K8q] h R) :
  ∀ (d i : Nat) (K1 K2 K3 K4 K5 K6 K8 Kb Kc Ke Kf Kg Kh Ki Kj Kk Kl Km Kn Ko Kp Kq Kr Ks Kt Ku Kv Kw Kx Ky Kz J0 J1 J2 J3 J4 J5 J6 J7 J8 J9 Ja Jb Jc Jd Je Jf Jg Jh Ji Jj Jk Jl Jm Jn Jo Jp Jq Jr Js Jt Ju Jv Jw Jx Jy Jz Y0 Y1 Y2 Y3 Y4 Y5 Y6 Y7 Y8 Y9 Ya Yb Yc Yd Ye Yf Yg Yh Yi Yj Yk Yl Ym Yn Yo Yp Yq Yr Ys Yt Yu Yv Yw Yx Z0 Z1 Z2 Z3 Z4 Z5 Z6 Z7 Z8 Z9 Za Zb Zc Zd Ze Zf Zg Zh Zi Zj Zk Zl Zm Zn Zo Zp Zq Zr Zs Zt Zu Zv Zw Zx Zy Zz K0q K1q K2q K3q K4q K5q K6q K7q K8q : Value),i + d = xs.length → Ok tab R7 (.inLoop L7_0 :: .inBlock 0 :: k) #[s,K1,K2,K3,K4,K5,K6,ptr X,K8,v1,y1,Kb,Kc,y2,Ke,Kf,Kg,Kh,Ki,Kj,Kk,Kl,Km,Kn,Ko,Kp,Kq,Kr,Ks,Kt,Ku,Kv,Kw,Kx,Ky,Kz,J0,J1,J2,J3,J4,J5,J6,J7,J8,J9,Ja,Jb,Jc,Jd,Je,Jf,Jg,Jh,Ji,Jj,Jk,Jl,Jm,Jn,Jo,Jp,Jq,Jr,Js,Jt,Ju,Jv,Jw,Jx,Jy,Jz,Y0,Y1,Y2,Y3,Y4,Y5,Y6,Y7,Y8,Y9,Ya,Yb,Yc,Yd,Ye,Yf,Yg,Yh,Yi,Yj,Yk,Yl,Ym,Yn,Yo,Yp,Yq,Yr,Ys,Yt,Yu,Yv,Yw,Yx,.int .i64 (xs.length : Nat),.int .i64 (i : Nat),Z0,Z1,Z2,Z3,Z4,Z5,Z6,Z7,Z8,Z9,Za,Zb,Zc,Zd,Ze,Zf,Zg,Zh,Zi,Zj,Zk,Zl,Zm,Zn,Zo,Zp,Zq,Zr,Zs,Zt,Zu,Zv,Zw,Zx,Zy,Zz,K0q,K1q,K2q,K3q,K4q,K5q,K6q,K7q,K8q] h R := by
 intro d
 induction d with
 | zero =>
  intro i K1 K2 K3 K4 K5 K6 K8 Kb Kc Ke Kf Kg Kh Ki Kj Kk Kl Km Kn Ko Kp Kq Kr Ks Kt Ku Kv Kw Kx Ky Kz J0 J1 J2 J3 J4 J5 J6 J7 J8 J9 Ja Jb Jc Jd Je Jf Jg Jh Ji Jj Jk Jl Jm Jn Jo Jp Jq Jr Js Jt Ju Jv Jw Jx Jy Jz Y0 Y1 Y2 Y3 Y4 Y5 Y6 Y7 Y8 Y9 Ya Yb Yc Yd Ye Yf Yg Yh Yi Yj Yk Yl Ym Yn Yo Yp Yq Yr Ys Yt Yu Yv Yw Yx Z0 Z1 Z2 Z3 Z4 Z5 Z6 Z7 Z8 Z9 Za Zb Zc Zd Ze Zf Zg Zh Zi Zj Zk Zl Zm Zn Zo Zp Zq Zr Zs Zt Zu Zv Zw Zx Zy Zz K0q K1q K2q K3q K4q K5q K6q K7q K8q hi
  obtain rfl : i = xs.length := by omega
  rw [ok_round,l7_0,L7_0a,L7_0b]
  simp
  exact hk ..
 | succ d ih =>
  intro i K1 K2 K3 K4 K5 K6 K8 Kb Kc Ke Kf Kg Kh Ki Kj Kk Kl Km Kn Ko Kp Kq Kr Ks Kt Ku Kv Kw Kx Ky Kz J0 J1 J2 J3 J4 J5 J6 J7 J8 J9 Ja Jb Jc Jd Je Jf Jg Jh Ji Jj Jk Jl Jm Jn Jo Jp Jq Jr Js Jt Ju Jv Jw Jx Jy Jz Y0 Y1 Y2 Y3 Y4 Y5 Y6 Y7 Y8 Y9 Ya Yb Yc Yd Ye Yf Yg Yh Yi Yj Yk Yl Ym Yn Yo Yp Yq Yr Ys Yt Yu Yv Yw Yx Z0 Z1 Z2 Z3 Z4 Z5 Z6 Z7 Z8 Z9 Za Zb Zc Zd Ze Zf Zg Zh Zi Zj Zk Zl Zm Zn Zo Zp Zq Zr Zs Zt Zu Zv Zw Zx Zy Zz K0q K1q K2q K3q K4q K5q K6q K7q K8q hi
  have h1 : i < xs.length := by omega
  have h2 : i < vs.length := by omega
  have h3 : i < ls.length := by omega
  have h4 : i < ls'.length := by omega
  have hlt : (i : Int) < (xs.length : Int) := by omega
  obtain ⟨id1,off1,b1,e1,hb1,hc1⟩ := sl_int hs h1
  obtain ⟨id2,off2,b2,e2,hb2,hc2⟩ := sl_int hv h2
  obtain ⟨id3,off3,b3,e3,hb3,hc3⟩ := sl_int hb h3
  obtain ⟨id4,off4,b4,e4,hb4,hc4⟩ := sl_int hd h4
  obtain ⟨g1,g2,g3,g4⟩ := hall i h1 h2 h3 h4
  have hx := hr xs[i] (List.getElem_mem h1)
  obtain ⟨q,hq⟩ := Int.eq_ofNat_of_zero_le g1
  rw [hq,Int.toNat_natCast] at g4
  rw [hq] at g2 g3 hc3
  have c1 : ¬ (q : Int) < 0 := by omega
  have c2 : ¬ pl < (q : Int) := by omega
  have c3 : ¬ (q : Int) < ls'[i] := by omega
  have hcut := fun (R : Value → Heap → Prop) => cut_c (h := h) (R := R) hx (k := q) (by omega)
  have c4 : (vs[i] != cutv q xs[i]) = false := by simp [g4]
  have hw : IntKind.i64.wrap ((i : Int) + 1) = ((i + 1 : Nat) : Int) := wrapN (n := i + 1) (by omega)
  have ih' := fun K1 K2 K3 K4 K5 K6 K8 Kb Kc Ke Kf Kg Kh Ki Kj Kk Kl Km Kn Ko Kp Kq Kr Ks Kt Ku Kv Kw Kx Ky Kz J0 J1 J2 J3 J4 J5 J6 J7 J8 J9 Ja Jb Jc Jd Je Jf Jg Jh Ji Jj Jk Jl Jm Jn Jo Jp Jq Jr Js Jt Ju Jv Jw Jx Jy Jz Y0 Y1 Y2 Y3 Y4 Y5 Y6 Y7 Y8 Y9 Ya Yb Yc Yd Ye Yf Yg Yh Yi Yj Yk Yl Ym Yn Yo Yp Yq Yr Ys Yt Yu Yv Yw Yx Z0 Z1 Z2 Z3 Z4 Z5 Z6 Z7 Z8 Z9 Za Zb Zc Zd Ze Zf Zg Zh Zi Zj Zk Zl Zm Zn Zo Zp Zq Zr Zs Zt Zu Zv Zw Zx Zy Zz K0q K1q K2q K3q K4q K5q K6q K7q K8q => ih (i + 1) K1 K2 K3 K4 K5 K6 K8 Kb Kc Ke Kf Kg Kh Ki Kj Kk Kl Km Kn Ko Kp Kq Kr Ks Kt Ku Kv Kw Kx Ky Kz J0 J1 J2 J3 J4 J5 J6 J7 J8 J9 Ja Jb Jc Jd Je Jf Jg Jh Ji Jj Jk Jl Jm Jn Jo Jp Jq Jr Js Jt Ju Jv Jw Jx Jy Jz Y0 Y1 Y2 Y3 Y4 Y5 Y6 Y7 Y8 Y9 Ya Yb Yc Yd Ye Yf Yg Yh Yi Yj Yk Yl Ym Yn Yo Yp Yq Yr Ys Yt Yu Yv Yw Yx Z0 Z1 Z2 Z3 Z4 Z5 Z6 Z7 Z8 Z9 Za Zb Zc Zd Ze Zf Zg Zh Zi Zj Zk Zl Zm Zn Zo Zp Zq Zr Zs Zt Zu Zv Zw Zx Zy Zz K0q K1q K2q K3q K4q K5q K6q K7q K8q (by omega)
  generalize ((i + 1 : Nat) : Int) = i1 at *
  rw [q1] at e2
  rw [q2] at e3
  rw [q3] at e4
  generalize (q : Int) = qi at *
  rw [e1,e2,e3,e4] at ih' ⊢
  rw [ok_round,l7_0,L7_0a,L7_0b]
  simp [book,bookU,logOf,addLog,chk1,lookL,reload,veq,k_guard,k_guardU,k_guardP,hlt,hb1,hc1,hb2,hc2,hb3,hc3,hb4,hc4,hX,c1,c2,c3,hcut,c4,hw]
  exact ih' ..
set_option maxHeartbeats 4000000 in
theorem ret_prefixes {n w hh o : Int} (hp : Rk .i64 h s xs) :
  Ret tab 7 [s,.int .i64 n,.agg #[.int .i64 w,.int .i64 hh,.int .i64 o,.bool x1,.bool x2,.bool x3,.bool x4,.bool x5]] h fun v _ => v = .bool true := by
 obtain ⟨pa,pc,hs⟩ := hp.sl.shape
 generalize hH : h ++ [some (⟨false,[.int .i64 w,.int .i64 hh,.int .i64 o,.bool x1,.bool x2,.bool x3,.bool x4,.bool x5]⟩ : Blk)] = H
 have b0 : blk? H h.length = some ⟨false,[.int .i64 w,.int .i64 hh,.int .i64 o,.bool x1,.bool x2,.bool x3,.bool x4,.bool x5]⟩ := by rw [← hH]; exact blk?_push_eq
 have lH : H.length = h.length + 1 := by rw [← hH]; simp
 have hpH : Rk .i64 H s xs := by rw [← hH]; exact hp.push _
 rw [enter7,show B7 = .seq (nthC 0 B7) (.seq (nthC 1 B7) (.seq (nthC 2 B7) (.seq (nthC 3 B7) (tlC 4 B7)))) from rfl]
 generalize hT : tlC 4 B7 = tl
 simp only [nthC,tlC,fstC,B7]
 by_cases hl : 144 < xs.length
 ·have hl' : (144 : Int) < (xs.length : Int) := by omega
  obtain ⟨H2,e2,_,_⟩ := awake18_c (h := H)
  rw [hs]
  simp [hH,hl',e2,fin7]
 have hl' : ¬ (144 : Int) < (xs.length : Int) := by omega
 obtain ⟨v,H1,e1,c1,k1,l1⟩ := encode_c (ints_rk hpH) (by omega) w hh o ⟨x1,x2,x3,x4,x5⟩ (symRes_tot (by omega))
 obtain ⟨f1,f2⟩ := encRes_facts (xs := xs) (w := w) (hh := hh) (o := o) (m := ⟨x1,x2,x3,x4,x5⟩)
 simp only [MD.val] at e1
 have b01 : blk? H1 h.length = some ⟨false,[.int .i64 w,.int .i64 hh,.int .i64 o,.bool x1,.bool x2,.bool x3,.bool x4,.bool x5]⟩ := by rw [k1 _ (by omega)]; exact b0
 by_cases h0 : (encRes xs w hh o ⟨x1,x2,x3,x4,x5⟩).1 = 0
 case neg =>
  have h0' : ((encRes xs w hh o ⟨x1,x2,x3,x4,x5⟩).1 != 0) = true := by simpa using h0
  obtain ⟨p1,d1,rfl,P1,D1,_,_⟩ := c1.ex
  obtain ⟨pa1,pc1,hp1⟩ := P1.sl.shape
  obtain ⟨da1,dc1,hd1⟩ := D1.sl.shape
  generalize (encRes xs w hh o ⟨x1,x2,x3,x4,x5⟩).2.ps.length = n1 at hp1
  generalize (encRes xs w hh o ⟨x1,x2,x3,x4,x5⟩).2.ds.length = n2 at hd1
  generalize ((encRes xs w hh o ⟨x1,x2,x3,x4,x5⟩).2.pl : Int) = n3 at e1
  rw [hp1,hd1] at e1
  rw [hs] at e1
  obtain ⟨H2,e2,_,_⟩ := awake18_c (h := H1 ++ [some ⟨false,[.int .i64 n3,.slice pa1 n1 pc1,.slice da1 n2 dc1]⟩])
  rw [hs]
  simp [k_guard,k_guardU,hH,hl',b0,e1,blk?_push_eq,h0',e2,fin7]
 have h0' : ((encRes xs w hh o ⟨x1,x2,x3,x4,x5⟩).1 != 0) = false := by simpa using h0
 obtain ⟨hs0,hpl60,hpl,hps,hv,hdg,hdl⟩ := f2 h0
 have hplen : (encRes xs w hh o ⟨x1,x2,x3,x4,x5⟩).2.ps.length ≤ 178 := by omega
 have ci := c1.ci (fun x hx => by have := vgoN_get _ _ _ hv x hx; omega) hdg
 rw [hpl] at ci
 rw [h0] at e1
 obtain ⟨p1,d1,rfl,P1,D1,_,_⟩ := ci.ex
 obtain ⟨pa1,pc1,hp1⟩ := P1.sl.shape
 obtain ⟨da1,dc1,hd1⟩ := D1.sl.shape
 rw [List.length_map] at hp1
 generalize ((encRes xs w hh o ⟨x1,x2,x3,x4,x5⟩).2.ds.map Int.ofNat).length = n2 at hd1
 generalize hA : H1 ++ [some (⟨false,[.int .i64 (planesOf xs : Nat),p1,d1]⟩ : Blk)] = A
 have lA : A.length = H1.length + 1 := by rw [← hA]; simp
 have kA : ∀ id,id < H1.length → blk? A id = blk? H1 id := fun id hid => by rw [← hA]; exact blk?_push_lt hid
 have b0A : blk? A h.length = some ⟨false,[.int .i64 w,.int .i64 hh,.int .i64 o,.bool x1,.bool x2,.bool x3,.bool x4,.bool x5]⟩ := by rw [kA _ (by omega)]; exact b01
 have bxA : blk? A H1.length = some ⟨false,[.int .i64 (planesOf xs : Nat),p1,d1]⟩ := by rw [← hA]; exact blk?_push_eq
 by_cases hn : n < 0 ∨ ((encRes xs w hh o ⟨x1,x2,x3,x4,x5⟩).2.ps.length : Int) ≤ n
 ·obtain ⟨H2,e2,_,_⟩ := awake18_c (h := A)
  generalize (encRes xs w hh o ⟨x1,x2,x3,x4,x5⟩).2.ps.length = n1 at *
  generalize ((planesOf xs : Nat) : Int) = pl at *
  rw [hp1,hd1] at e1 hA bxA
  rw [hs] at e1
  rw [hs]
  by_cases hn0 : n < 0
  ·simp [k_guard,k_guardU,hH,hl',b0,e1,blk?_push_eq,hA,hn0,e2,fin7]
  ·have hn1 : (n1 : Int) ≤ n := by omega
   simp [k_guard,k_guardU,hH,hl',b0,e1,blk?_push_eq,hA,hn0,bxA,hn1,e2,fin7]
 obtain ⟨n,rfl⟩ := Int.eq_ofNat_of_zero_le (show 0 ≤ n by omega)
 have hnl : n < (encRes xs w hh o ⟨x1,x2,x3,x4,x5⟩).2.ps.length := by omega
 obtain ⟨vs,ls,vs',ls',d1e,d2e,lv,ll,ll',lv',hall⟩ := prefixes_law h0 (n := n) (by omega)
 have P1A := P1.keep (h' := A) (by omega) fun id hid _ => kA id hid
 have D1A := D1.keep (h' := A) (by omega) fun id hid _ => kA id hid
 obtain ⟨v3,y3,H3,e3,V3⟩ := decode_c (m := ⟨x1,x2,x3,x4,x5⟩) (pl := (planesOf xs : Nat)) (n := (n : Int)) (w := w) (hh := hh) (o := o) P1A D1A hdg (by rw [List.length_map]; omega) (by omega)
 rw [d1e] at e3 V3
 have k3 := V3.low
 have l3 := V3.len
 have b03 : blk? H3 h.length = some ⟨false,[.int .i64 w,.int .i64 hh,.int .i64 o,.bool x1,.bool x2,.bool x3,.bool x4,.bool x5]⟩ := by rw [k3 _ (by omega)]; exact b0A
 have bx3 : blk? H3 H1.length = some ⟨false,[.int .i64 (planesOf xs : Nat),p1,d1]⟩ := by rw [k3 _ (by omega)]; exact bxA
 have P13 := P1A.keep (h' := H3) (by omega) fun id hid _ => k3 id hid
 have D13 := D1A.keep (h' := H3) (by omega) fun id hid _ => k3 id hid
 obtain ⟨v4,y4,H4,e4,V4⟩ := decode_c (m := ⟨x1,x2,x3,x4,x5⟩) (pl := (planesOf xs : Nat)) (n := ((n + 1 : Nat) : Int)) (w := w) (hh := hh) (o := o) P13 D13 hdg (by rw [List.length_map]; omega) (by omega)
 rw [d2e] at e4 V4
 have k4 := V4.low
 have l4 := V4.len
 have bx4 : blk? H4 H1.length = some ⟨false,[.int .i64 (planesOf xs : Nat),p1,d1]⟩ := by rw [k4 _ (by omega)]; exact bx3
 have o3 : OwnS H4 1 v3 vs.length (i64s vs) := V3.o1.of_blk fun id hid hb => by have := V3.o1.lt hid; rw [k4 id (by omega)]; exact hb
 have q3 : OwnS H4 1 y3 ls.length (i64s ls) := V3.o2.of_blk fun id hid hb => by have := V3.o2.lt hid; rw [k4 id (by omega)]; exact hb
 have q4 : OwnS H4 1 y4 ls'.length (i64s ls') := V4.o2
 have o4 : OwnS H4 1 v4 vs'.length (i64s vs') := V4.o1
 have hp4 : Rk .i64 H4 s xs := hpH.keep (by omega) fun id hid _ => by rw [k4 id (by omega),k3 id (by omega),kA id (by omega),k1 id hid]
 obtain ⟨H5,e5,_,_⟩ := awake18_c (h := H4)
 simp only [MD.val] at e3 e4
 obtain ⟨va3,vc3,hv3⟩ := o3.sl.shape
 obtain ⟨ya3,yc3,hy3⟩ := q3.sl.shape
 obtain ⟨va4,vc4,hv4⟩ := o4.sl.shape
 obtain ⟨ya4,yc4,hy4⟩ := q4.sl.shape
 have hL := fun K1 K2 K3 K4 K5 K6 K8 Kb Kc Ke Kf Kg Kh Ki Kj Kk Kl Km Kn Ko Kp Kq Kr Ks Kt Ku Kv Kw Kx Ky Kz J0 J1 J2 J3 J4 J5 J6 J7 J8 J9 Ja Jb Jc Jd Je Jf Jg Jh Ji Jj Jk Jl Jm Jn Jo Jp Jq Jr Js Jt Ju Jv Jw Jx Jy Jz Y0 Y1 Y2 Y3 Y4 Y5 Y6 Y7 Y8 Y9 Ya Yb Yc Yd Ye Yf Yg Yh Yi Yj Yk Yl Ym Yn Yo Yp Yq Yr Ys Yt Yu Yv Yw Yx Z0 Z1 Z2 Z3 Z4 Z5 Z6 Z7 Z8 Z9 Za Zb Zc Zd Ze Zf Zg Zh Zi Zj Zk Zl Zm Zn Zo Zp Zq Zr Zs Zt Zu Zv Zw Zx Zy Zz K0q K1q K2q K3q K4q K5q K6q K7q K8q => pre_loop (R := fun v _ => v = .bool true) (k := [.code (tlC 8 B7)]) (ints_rk hp4).sl o3.sl q3.sl q4.sl lv ll ll' bx4 (by omega) (inR_planes.2 hpl60) (by omega) hall
  (fun K0 K1 K2 K3 K4 K5 K6 K7 K8 K9 Ka Kb Kc Kd Ke Kf Kg Kh Ki Kj Kk Kl Km Kn Ko Kp Kq Kr Ks Kt Ku Kv Kw Kx Ky Kz J0 J1 J2 J3 J4 J5 J6 J7 J8 J9 Ja Jb Jc Jd Je Jf Jg Jh Ji Jj Jk Jl Jm Jn Jo Jp Jq Jr Js Jt Ju Jv Jw Jx Jy Jz Y0 Y1 Y2 Y3 Y4 Y5 Y6 Y7 Y8 Y9 Ya Yb Yc Yd Ye Yf Yg Yh Yi Yj Yk Yl Ym Yn Yo Yp Yq Yr Ys Yt Yu Yv Yw Yx Yy Yz Z0 Z1 Z2 Z3 Z4 Z5 Z6 Z7 Z8 Z9 Za Zb Zc Zd Ze Zf Zg Zh Zi Zj Zk Zl Zm Zn Zo Zp Zq Zr Zs Zt Zu Zv Zw Zx Zy Zz K0q K1q K2q K3q K4q K5q K6q K7q K8q => by
   simp only [nthC,tlC,fstC,B7]
   simp [e5,fin7]) xs.length 0 K1 K2 K3 K4 K5 K6 K8 Kb Kc Ke Kf Kg Kh Ki Kj Kk Kl Km Kn Ko Kp Kq Kr Ks Kt Ku Kv Kw Kx Ky Kz J0 J1 J2 J3 J4 J5 J6 J7 J8 J9 Ja Jb Jc Jd Je Jf Jg Jh Ji Jj Jk Jl Jm Jn Jo Jp Jq Jr Js Jt Ju Jv Jw Jx Jy Jz Y0 Y1 Y2 Y3 Y4 Y5 Y6 Y7 Y8 Y9 Ya Yb Yc Yd Ye Yf Yg Yh Yi Yj Yk Yl Ym Yn Yo Yp Yq Yr Ys Yt Yu Yv Yw Yx Z0 Z1 Z2 Z3 Z4 Z5 Z6 Z7 Z8 Z9 Za Zb Zc Zd Ze Zf Zg Zh Zi Zj Zk Zl Zm Zn Zo Zp Zq Zr Zs Zt Zu Zv Zw Zx Zy Zz K0q K1q K2q K3q K4q K5q K6q K7q K8q (by omega)
 have hn0 : ¬ (n : Int) < 0 := by omega
 have hn1 : ¬ ((encRes xs w hh o ⟨x1,x2,x3,x4,x5⟩).2.ps.length : Int) ≤ (n : Int) := by omega
 have hw1 : IntKind.i64.wrap ((n : Int) + 1) = ((n + 1 : Nat) : Int) := wrapN (n := n + 1) (by omega)
 generalize ((n + 1 : Nat) : Int) = n' at *
 rw [lv] at hv3
 rw [ll] at hy3
 rw [ll'] at hy4
 have hee : ∀ n : Nat,(((n : Nat) : Int) != (n : Int)) = false := fun n => by simp
 generalize (encRes xs w hh o ⟨x1,x2,x3,x4,x5⟩).2.ps.length = n1 at *
 generalize ((planesOf xs : Nat) : Int) = pl at *
 rw [hp1,hd1] at e1 hA bxA bx3 bx4 e3 e4
 rw [hs] at e1 hL
 rw [hv3,hy3] at e3 hL
 rw [hy4] at hL
 rw [hv4,hy4] at e4
 rw [hs]
 simp [k_guard,k_guardU,hH,hl',b0,e1,blk?_push_eq,hA,hn0,bxA,hn1]
 rw [← hT,show tlC 4 B7 = .seq (nthC 4 B7) (.seq (nthC 5 B7) (.seq (nthC 6 B7) (.seq (nthC 7 B7) (tlC 8 B7)))) from rfl]
 generalize hT : tlC 8 B7 = tl at *
 simp only [nthC,tlC,fstC,B7]
 simp [k_guard,k_guardU,bxA,b0A,e3,bx3,b03,hw1,e4,hee]
 exact hL ..
end
end Go.Proofs.YtjpjohchdfoeaaaGreat
