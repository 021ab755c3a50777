/-
  The reference's source of bits, followed: a decoder and a reader.
  The reference's arithmetic encoder, followed: the end of a codeword.
  The reference's writer of raw bits, followed.
  The reference's writer of raw bits, followed: the end of a segment.
  The reference's division into segments, followed.
  The reference's segment, followed: the symbols of a pass.
  The reference's segment, followed: its passes.
  The reference's segment, followed.
  The reference's decoding, followed: the passes of a segment.
  The reference's decoding, followed: the segments, and Symbols.
  A pass of the reference with the bits of symbols.
  A pass of the reference with the bits of symbols: what was asked for, compared.
  A pass of the reference with the bits of symbols: perform.
  Values of the reference: the passes.
  Values of the reference.
  Values of the reference comes to what the program's does.
  The reference's block decoder: the contract of Decode.
  The curve of a block, followed: the distortion after n passes, the reference's contract.
  The curve of a block, followed: the reference's contract.
  Whether two lists are the same (law 18's own).
  Whether two lists of integers are the same (the reference's).
  The examples of the chapter hold.
  DistortCurves: the walk.
-/
import Derived.Test.YtjpjohchdfoeaaaGreatSrcR
import Derived.Test.YtjpjohchdfoeaaaGreatRr
import Derived.Test.YtjpjohchdfoeaaaGreatVals
import Derived.Test.YtjpjohchdfoeaaaGreatTab
import Derived.Test.YtjpjohchdfoeaaaGreatSimZ
namespace Go.Proofs.YtjpjohchdfoeaaaGreat
open Go Go.Sim
set_option maxHeartbeats 4000000
set_option maxRecDepth 10000
set_option linter.unusedSimpArgs false
set_option linter.unusedVariables false
section
variable {h : Heap} {R : RP} {d pb n value size : Nat} {dv : Value} {D p : List Nat} {a : AD}
theorem zdecode_no {x : Int} (I : DP h d pb dv D n p value size true) (hx : (p.length : Int) ≤ x) : Ret tab 204 [ptr d,.int .i64 x] h R = R (.tuple #[.int .i64 0,.int .i64 2]) h := by
 have hb := I.blk
 have h0 : ¬ x < 0 := by omega
 rw [enter204,B204]
 simp [k_guard,k_guardU,hb,h0,hx,fin204]
theorem zdecode_off {x : Int} (I : DP h d pb dv D n p value size false) : Ret tab 204 [ptr d,.int .i64 x] h R = R (.tuple #[.int .i64 0,.int .i64 6]) h := by
 have hb := I.blk
 rw [enter204,B204]
 simp [k_guard,k_guardU,hb,fin204]
end
theorem znext_tail {H : Heap} {sb d q : Nat} {av : Value} {l : List (Int × Nat)} (hb : blk? H sb = some ⟨false,[ptr d,ptr q,.slice none 0 0,av]⟩) (ho : OwnS H 2 av l.length (encS l)) (hl : l.length < 1000000) (hav : sid av ≠ some sb) (x : Int) (bt : Nat) :
  ∃ H2,(∀ (R : RP) (K2 K3 K4 K6 K7 K8 K9 Ka Kb Kc Kd Ke Kf Kg Kh Ki Kj Kk Kl Km Kn Ko Kp Kq Kr Ks Kt Ku Kv Kw Kx Ky Kz J0 J1 J2 J3 J4 J5 J6 J7 J8 J9 Ja Jb Jc Jd Je Jf Jg Jh Ji Jj Jk Jl Jm Jn Jo Jp Jq Jr Js Jt Ju Jv Jw Jx Jy Jz Y0 Y1 Y2 Y3 : Value),R (.int .i64 (bt : Nat)) H2 → Ok tab R185 [.code (tlC 3 B185)] #[ptr sb,.int .i64 x,K2,K3,K4,.int .i64 (bt : Nat),K6,K7,K8,K9,Ka,Kb,Kc,Kd,Ke,Kf,Kg,Kh,Ki,Kj,Kk,Kl,Km,Kn,Ko,Kp,Kq,Kr,Ks,Kt,Ku,Kv,Kw,Kx,Ky,Kz,J0,J1,J2,J3,J4,J5,J6,J7,J8,J9,Ja,Jb,Jc,Jd,Je,Jf,Jg,Jh,Ji,Jj,Jk,Jl,Jm,Jn,Jo,Jp,Jq,Jr,Js,Jt,Ju,Jv,Jw,Jx,Jy,Jz,Y0,Y1,Y2,Y3] H R) ∧
   blk? H2 sb = some ⟨false,[ptr d,ptr q,.slice none 0 0,.slice (some ⟨H.length + 1,0,none⟩) (l.length + 1) 2]⟩ ∧ OwnS H2 2 (.slice (some ⟨H.length + 1,0,none⟩) (l.length + 1) 2) (l ++ [(x,bt)]).length (encS (l ++ [(x,bt)])) ∧ H2.length = H.length + 2 ∧ (∀ id,id < H.length → id ≠ sb → sid av ≠ some id → blk? H2 id = blk? H id) := by
 have lsb := blk?_lt hb
 have ho' : OwnS (H ++ [some ⟨false,[.int .i64 x,.int .i64 (bt : Nat)]⟩]) 2 av l.length (encS l) := ho.of_blk fun id hid hb => by rw [blk?_push_lt (blk?_lt hb)]; exact hb
 have hts : Sl (H ++ [some ⟨false,[.int .i64 x,.int .i64 (bt : Nat)]⟩]) 2 (.slice (some ⟨H.length,0,none⟩) 1 2) 1 [.int .i64 x,.int .i64 (bt : Nat)] := ⟨rfl,.inr ⟨H.length,0,rfl,.inr ⟨_,blk?_push_eq,by simp,by simp⟩⟩⟩
 obtain ⟨H1,ha,hb1,hHl,hHk⟩ := own_append (bytes := 16) ho' hts (by unfold roomCells; omega) (by omega) (by omega)
 have hlen : (H ++ [some (⟨false,[.int .i64 x,.int .i64 (bt : Nat)]⟩ : Blk)]).length = H.length + 1 := by simp
 rw [hlen] at ha hb1 hHl hHk
 have bs1 : blk? H1 sb = some ⟨false,[ptr d,ptr q,.slice none 0 0,av]⟩ := by rw [hHk sb (by omega) hav,blk?_push_lt lsb]; exact hb
 have ls1 := blk?_lt bs1
 have hE : ∀ y : Option Blk,blk? (H1.set sb y) sb = y := fun y => blk?_set_eq ls1
 refine ⟨H1.set sb (some ⟨false,[ptr d,ptr q,.slice none 0 0,.slice (some ⟨H.length + 1,0,none⟩) (l.length + 1) 2]⟩),fun R K2 K3 K4 K6 K7 K8 K9 Ka Kb Kc Kd Ke Kf Kg Kh Ki Kj Kk Kl Km Kn Ko Kp Kq Kr Ks Kt Ku Kv Kw Kx Ky Kz J0 J1 J2 J3 J4 J5 J6 J7 J8 J9 Ja Jb Jc Jd Je Jf Jg Jh Ji Jj Jk Jl Jm Jn Jo Jp Jq Jr Js Jt Ju Jv Jw Jx Jy Jz Y0 Y1 Y2 Y3 hR => ?_,hE _,⟨by rw [encS_len],.inr ⟨H.length + 1,by simp,?_⟩⟩,by simp; omega,fun id h1 h2 h3 => by rw [blk?_set_ne (Ne.symm h2),hHk id (by omega) h3,blk?_push_lt h1]⟩
 ·obtain ⟨aa,ac,hsh⟩ := ho.sl.shape
  rw [hsh] at hb ha bs1
  generalize ((bt : Nat) : Int) = bi at *
  simp only [nthC,tlC,fstC,B185]
  simp [repL,writeAt,hb,ha,bs1,fin185]
  exact hR
 ·rw [blk?_set_ne (by omega),hb1,encS_append]; rfl
structure QRel (d pb q sb c N : Nat) (dv rs : Value) (D : List Nat) (h : Heap) (av : Value) (s : QR) : Prop where
 blk : blk? h sb = some ⟨false,[ptr d,ptr q,.slice none 0 0,av]⟩
 dec : ∃ n,n ≤ N + s.l.length ∧ ((s.on = true ∧ DA h d pb dv D n s.a) ∨ (s.on = false ∧ DP h d pb dv D n s.a.p s.a.value s.a.size false))
 dig : Dig D
 dl : D.length < 100000000
 h19 : s.a.p.length = 19
 rdr : RB h q rs s.rd.1 s.rd.2
 rn : s.rd.2 ≤ N + s.l.length
 ol : OwnS h 2 av s.l.length (encS s.l)
 d1 : ∀ id,ownE d pb dv id → ¬ ownR q rs id
 d2 : ∀ id,ownE d pb dv id ∨ ownR q rs id → id ≠ sb ∧ sid av ≠ some id ∧ id ≠ c
 d3 : sid av ≠ some sb ∧ sid av ≠ some c
 sc : sb ≠ c
 nb : N ≤ 50000000
 cl : c < h.length
def ownQ (d pb q sb : Nat) (dv rs av : Value) (id : Nat) : Prop := (ownE d pb dv id ∨ ownR q rs id) ∨ id = sb ∨ sid av = some id
section
variable {d pb q sb c N : Nat} {dv rs : Value} {D : List Nat} {h h' : Heap} {av : Value} {s : QR}
theorem QRel.dp (r : QRel d pb q sb c N dv rs D h av s) : ∃ n st,DP h d pb dv D n s.a.p s.a.value s.a.size st := by
 obtain ⟨n,_,⟨_,I⟩ | ⟨_,I⟩⟩ := r.dec
 ·exact ⟨n,true,I.dp⟩
 ·exact ⟨n,false,I⟩
theorem QRel.own_lt (r : QRel d pb q sb c N dv rs D h av s) {id : Nat} (hid : ownQ d pb q sb dv rs av id) : id < h.length := by
 obtain ⟨n,st,I⟩ := r.dp
 rcases hid with (hid | hid) | rfl | hid
 ·exact I.own_lt hid
 ·exact r.rdr.own_lt hid
 ·exact blk?_lt r.blk
 ·exact r.ol.lt hid
theorem QRel.keep (r : QRel d pb q sb c N dv rs D h av s) (hl : h.length ≤ h'.length) (hk : ∀ id,ownQ d pb q sb dv rs av id → blk? h' id = blk? h id) : QRel d pb q sb c N dv rs D h' av s := by
 refine ⟨by rw [hk sb (.inr (.inl rfl))]; exact r.blk,?_,r.dig,r.dl,r.h19,r.rdr.keep fun id hid => hk id (.inl (.inr hid)),r.rn,r.ol.of_blk fun id hid hb => by rw [hk id (.inr (.inr hid))]; exact hb,r.d1,r.d2,r.d3,r.sc,r.nb,by have := r.cl; omega⟩
 obtain ⟨n,hn,⟨ho,I⟩ | ⟨ho,I⟩⟩ := r.dec
 ·exact ⟨n,hn,.inl ⟨ho,⟨I.dp.keep fun id hid => hk id (.inl (.inl hid)),I.rest,I.ok,I.pos⟩⟩⟩
 ·exact ⟨n,hn,.inr ⟨ho,I.keep fun id hid => hk id (.inl (.inl hid))⟩⟩
theorem qnext (r : QRel d pb q sb c N dv rs D h av s) (hs : s.l.length < 1000000) (x : Int) :
  ∃ av' h',(∀ R : RP,Ret tab 185 [ptr sb,.int .i64 x] h R = R (.int .i64 (s.bit x : Nat)) h') ∧ QRel d pb q sb c N dv rs D h' av' (s.ask x).2 ∧ Stu h h' (ownQ d pb q sb dv rs av) (ownQ d pb q sb dv rs av') := by
 obtain ⟨n,hn,hdec⟩ := r.dec
 have hb := r.blk
 have lsb := blk?_lt hb
 have nb := r.nb
 have first : ∃ H n',(n' ≤ N + (s.l.length + 1)) ∧ ((s.on = true ∧ DA H d pb dv D n' (s.ask x).2.a) ∨ (s.on = false ∧ DP H d pb dv D n' (s.ask x).2.a.p (s.ask x).2.a.value (s.ask x).2.a.size false)) ∧ RB H q rs (s.ask x).2.rd.1 (s.ask x).2.rd.2 ∧ (∀ id,¬ (ownE d pb dv id ∨ ownR q rs id) → blk? H id = blk? h id) ∧ H.length = h.length ∧ (s.ask x).2.a.p.length = 19 ∧
   (∀ (R : RP),(∀ (K2 K3 K4 K6 K7 K8 K9 Ka Kb Kc Kd Ke Kf Kg Kh Ki Kj Kk Kl Km Kn Ko Kp Kq Kr Ks Kt Ku Kv Kw Kx Ky Kz J0 J1 J2 J3 J4 J5 J6 J7 J8 J9 Ja Jb Jc Jd Je Jf Jg Jh Ji Jj Jk Jl Jm Jn Jo Jp Jq Jr Js Jt Ju Jv Jw Jx Jy Jz Y0 Y1 Y2 Y3 : Value),Ok tab R185 [.code (tlC 3 B185)] #[ptr sb,.int .i64 x,K2,K3,K4,.int .i64 (s.bit x : Nat),K6,K7,K8,K9,Ka,Kb,Kc,Kd,Ke,Kf,Kg,Kh,Ki,Kj,Kk,Kl,Km,Kn,Ko,Kp,Kq,Kr,Ks,Kt,Ku,Kv,Kw,Kx,Ky,Kz,J0,J1,J2,J3,J4,J5,J6,J7,J8,J9,Ja,Jb,Jc,Jd,Je,Jf,Jg,Jh,Ji,Jj,Jk,Jl,Jm,Jn,Jo,Jp,Jq,Jr,Js,Jt,Ju,Jv,Jw,Jx,Jy,Jz,Y0,Y1,Y2,Y3] H R) → Ret tab 185 [ptr sb,.int .i64 x] h R) := by
  by_cases h0 : 0 ≤ x
  ·have h0' : ¬ x < 0 := by omega
   have erd : (s.ask x).2.rd = s.rd := by simp only [QR.ask,h0,if_true]
   rw [erd]
   cases hon : s.on with
   | true =>
    have I : DA h d pb dv D n s.a := by
     rcases hdec with ⟨_,I⟩ | ⟨y,_⟩
     ·exact I
     ·rw [hon] at y; cases y
    have ea : (s.ask x).2.a = (askA s.a none x).2.1 := by simp only [QR.ask,h0,hon,and_self,if_true]
    have eb : s.bit x = (askA s.a none x).1 := by simp only [QR.bit,h0,hon,if_true]
    rw [ea,eb]
    by_cases h19 : x < 19
    ·obtain ⟨x,rfl⟩ := Int.eq_ofNat_of_zero_le h0
     have eA : askA s.a none (x : Int) = (s.a.bit x,s.a.next x,none) := by unfold askA; simp only [h0,h19,and_self,if_true,Int.toNat_natCast]
     obtain ⟨H,n',e,I',hn',k,l⟩ := zdecode_c I (c := x) (by rw [r.h19]; omega) r.dig (by have := r.dl; omega) (by omega)
     rw [eA]
     refine ⟨H,n',by omega,.inl ⟨rfl,I'⟩,r.rdr.keep fun id hid => k id (fun y => r.d1 id (.inl y) hid) (fun y => r.d1 id (.inr (.inl y)) hid),fun id hid => k id (fun y => hid (.inl (.inl y))) (fun y => hid (.inl (.inr (.inl y)))),l,by simp [AD.next,r.h19],fun R hR => ?_⟩
     have e1 := e
     generalize s.a.bit x = bt at *
     rw [enter185,show B185 = .seq (nthC 0 B185) (.seq (nthC 1 B185) (.seq (nthC 2 B185) (tlC 3 B185))) from rfl]
     generalize tlC 3 B185 = tl at *
     generalize ((bt : Nat) : Int) = bi at *
     generalize hxi : ((x : Nat) : Int) = xi at *
     simp only [nthC,tlC,fstC,B185]
     simp [k_guard,k_guardU,h0,h0',hb,eqV,e1]
     exact hR ..
    ·have eA : askA s.a none x = (0,s.a,none) := by unfold askA; simp only [h19,and_false,if_false]
     have e := fun R => zdecode_no (R := R) I.dp (x := x) (by rw [r.h19]; omega)
     rw [eA]
     refine ⟨h,n,by omega,.inl ⟨rfl,I⟩,r.rdr,fun _ _ => rfl,rfl,r.h19,fun R hR => ?_⟩
     have hR' := hR
     try simp only [Int.cast_ofNat_Int] at hR'
     rw [enter185,show B185 = .seq (nthC 0 B185) (.seq (nthC 1 B185) (.seq (nthC 2 B185) (tlC 3 B185))) from rfl]
     generalize tlC 3 B185 = tl at *
     simp only [nthC,tlC,fstC,B185]
     simp [k_guard,k_guardU,h0,h0',hb,eqV,e]
     exact hR' ..
   | false =>
    have I : DP h d pb dv D n s.a.p s.a.value s.a.size false := by
     rcases hdec with ⟨y,_⟩ | ⟨_,I⟩
     ·rw [hon] at y; cases y
     ·exact I
    have ea : (s.ask x).2.a = s.a := by simp [QR.ask,hon]
    have eb : s.bit x = 0 := by simp [QR.bit,hon,h0]
    have e := fun R => zdecode_off (R := R) I (x := x)
    rw [ea,eb]
    refine ⟨h,n,by omega,.inr ⟨rfl,I⟩,r.rdr,fun _ _ => rfl,rfl,r.h19,fun R hR => ?_⟩
    have hR' := hR
    try simp only [Int.cast_ofNat_Int] at hR'
    rw [enter185,show B185 = .seq (nthC 0 B185) (.seq (nthC 1 B185) (.seq (nthC 2 B185) (tlC 3 B185))) from rfl]
    generalize tlC 3 B185 = tl at *
    simp only [nthC,tlC,fstC,B185]
    simp [k_guard,k_guardU,h0,h0',hb,eqV,e]
    exact hR' ..
  ·have h0' : x < 0 := by omega
   have ea : (s.ask x).2.a = s.a := by simp [QR.ask,h0]
   have erd : (s.ask x).2.rd = (s.rd.1,s.rd.2 + 1) := by simp only [QR.ask,h0,if_false]
   have eb : s.bit x = bitAt s.rd.1 s.rd.2 := by simp only [QR.bit,h0,if_false]
   have e := fun R => zget_c (R := R) r.rdr (by have := r.rn; omega)
   have lq := r.rdr.own_lt (.inl rfl)
   rw [ea,erd,eb]
   have hdq : ∀ id,ownE d pb dv id → id ≠ q := fun id hid y => r.d1 id hid (.inl y)
   refine ⟨_,n,by omega,?_,r.rdr.next,fun id hid => by rw [blk?_set_ne (fun y => hid (.inr (.inl y.symm)))],by simp,r.h19,fun R hR => ?_⟩
   ·rcases hdec with ⟨y,I⟩ | ⟨y,I⟩
    ·exact .inl ⟨y,⟨I.dp.keep fun id hid => by rw [blk?_set_ne (Ne.symm (hdq id hid))],I.rest,I.ok,I.pos⟩⟩
    ·exact .inr ⟨y,I.keep fun id hid => by rw [blk?_set_ne (Ne.symm (hdq id hid))]⟩
   ·generalize bitAt s.rd.1 s.rd.2 = bt at *
    generalize ((bt : Nat) : Int) = bi at *
    generalize ((s.rd.2 + 1 : Nat) : Int) = n1 at *
    rw [enter185,show B185 = .seq (nthC 0 B185) (.seq (nthC 1 B185) (.seq (nthC 2 B185) (tlC 3 B185))) from rfl]
    generalize tlC 3 B185 = tl at *
    simp only [nthC,tlC,fstC,B185]
    simp [k_guard,k_guardU,h0,h0',hb,eqV,e]
    exact hR ..
 obtain ⟨H,n',hn',hdec',rdr',k,l,p19,e⟩ := first
 have nsb : ¬ (ownE d pb dv sb ∨ ownR q rs sb) := fun y => (r.d2 sb y).1 rfl
 have hbH : blk? H sb = some ⟨false,[ptr d,ptr q,.slice none 0 0,av]⟩ := by rw [k sb nsb]; exact hb
 have oH : OwnS H 2 av s.l.length (encS s.l) := r.ol.of_blk fun id hid hb => by rw [k id (fun y => (r.d2 id y).2.1 hid)]; exact hb
 obtain ⟨H2,e2,b2,o2,l2,k2⟩ := znext_tail hbH oH hs r.d3.1 x (s.bit x)
 have el : (s.ask x).2.l = s.l ++ [(x,s.bit x)] := rfl
 have eon : (s.ask x).2.on = s.on := rfl
 have big : ∀ id,ownE d pb dv id ∨ ownR q rs id → id < h.length := fun id hid => r.own_lt (.inl hid)
 have keep2 : ∀ id,ownE d pb dv id ∨ ownR q rs id → blk? H2 id = blk? H id := fun id hid => k2 id (by have := big id hid; omega) (r.d2 id hid).1 (r.d2 id hid).2.1
 refine ⟨_,H2,fun R => ?_,⟨b2,⟨n',by rw [el]; simp; omega,?_⟩,r.dig,r.dl,p19,rdr'.keep fun id hid => keep2 id (.inr hid),?_,by rw [el]; exact o2,r.d1,fun id hid => ?_,⟨by simp [sid]; omega,by have := r.cl; simp [sid]; omega⟩,r.sc,r.nb,by have := r.cl; omega⟩,⟨by omega,fun id h1 h2 => ?_,fun id hid => ?_⟩⟩
 ·obtain ⟨v,h',ee,rfl,rfl⟩ := ret_ex (e (fun v h' => v = .int .i64 (s.bit x : Nat) ∧ h' = H2) fun K2 K3 K4 K6 K7 K8 K9 Ka Kb Kc Kd Ke Kf Kg Kh Ki Kj Kk Kl Km Kn Ko Kp Kq Kr Ks Kt Ku Kv Kw Kx Ky Kz J0 J1 J2 J3 J4 J5 J6 J7 J8 J9 Ja Jb Jc Jd Je Jf Jg Jh Ji Jj Jk Jl Jm Jn Jo Jp Jq Jr Js Jt Ju Jv Jw Jx Jy Jz Y0 Y1 Y2 Y3 => e2 _ _ _ _ _ _ _ _ _ _ _ _ _ _ _ _ _ _ _ _ _ _ _ _ _ _ _ _ _ _ _ _ _ _ _ _ _ _ _ _ _ _ _ _ _ _ _ _ _ _ _ _ _ _ _ _ _ _ _ _ _ _ _ _ _ _ _ _ _ _ _ _ _ _ ⟨rfl,rfl⟩)
  exact ee R
 ·rw [eon]
  rcases hdec' with ⟨y,I⟩ | ⟨y,I⟩
  ·exact .inl ⟨y,⟨I.dp.keep fun id hid => keep2 id (.inl hid),I.rest,I.ok,I.pos⟩⟩
  ·exact .inr ⟨y,I.keep fun id hid => keep2 id (.inl hid)⟩
 ·rw [el]
  have := r.rn
  simp only [QR.ask,List.length_append,List.length_singleton]
  split <;> (try simp only) <;> omega
 ·obtain ⟨q1,q2,q3⟩ := r.d2 id hid
  have := big id hid
  exact ⟨q1,by simp [sid]; omega,q3⟩
 ·rw [k2 id (by omega) (fun y => h2 (.inr (.inl y))) (fun y => h2 (.inr (.inr y))),k id (fun y => h2 (.inl y))]
 ·rcases hid with hid | hid | hid
  ·exact .inl (.inl hid)
  ·exact .inl (.inr (.inl hid))
  ·simp [sid] at hid; right; omega
end
def qSrc (d pb q sb c N : Nat) (dv rs : Value) (D : List Nat) : Src c (callN sb) where
 S := QR
 T := Value
 ask := QR.ask
 rel := fun h t s => QRel d pb q sb c N dv rs D h t s
 own := ownQ d pb q sb dv rs
 size := fun s => s.l.length
 lt := fun r id hid => r.own_lt hid
 stable := fun {h h' t s} r hl hk => r.keep hl fun id hid => hk id (r.own_lt hid) (fun e => by
  rcases hid with hid | hid | hid
  ·exact (r.d2 id hid).2.2 e
  ·exact r.sc (by rw [← hid]; exact e)
  ·exact r.d3.2 (by rw [← e]; exact hid))
 size_ask := fun s x => by simp [QR.ask]
 step := fun {h t s} r hs x => by
  obtain ⟨av',h',e,r',S⟩ := qnext r hs x
  refine ⟨av',h',((s.bit x : Nat) : Int),fun R => e R,?_,r',S⟩
  have := s.bit_lt x
  unfold QR.ask
  simp only
  generalize s.bit x = bt at *
  have : bt = 0 ∨ bt = 1 := by omega
  rcases this with rfl | rfl <;> rfl
 c_own := fun {h t s} r hid => by
  rcases hid with hid | hid | hid
  ·exact (r.d2 c hid).2.2 rfl
  ·exact r.sc hid.symm
  ·exact r.d3.2 hid
section
variable {h : Heap} {R : RP} {e pb lb : Nat} {a : AE}
end
section
variable {h : Heap} {R : RP} {q : Nat} {sv : Value} {bs : List Nat}
end
section
variable {h : Heap} {R : RP} {q : Nat} {sv : Value} {bs : List Nat}
end
def szAt (m : MD) (n j : Nat) : Nat := if m.res = true then 1 else if m.byp = true then (if j = 0 then 10 else 1 + j % 2) else n
theorem szAt_next (m : MD) (n j : Nat) : sgNext m (szAt m n j) = szAt m n (j + 1) := by
 unfold sgNext szAt
 cases hr : m.res <;> cases hb : m.byp <;> simp
 by_cases h0 : j = 0
 ·subst h0; simp
 ·rw [if_neg h0]
  rcases Nat.mod_two_eq_zero_or_one j with h | h
  ·rw [h,if_neg (by omega)]; omega
  ·rw [h,if_pos rfl]; omega
theorem szAt_zero (m : MD) (n : Nat) : szAt m n 0 = sgFirst m n := by
 unfold szAt sgFirst
 cases hr : m.res <;> cases hb : m.byp <;> simp
section
variable {h : Heap} {R : RP}
theorem seg14_loop {hB : Heap} {X n : Nat} {m : MD} {T : List Nat} (hX : blk? hB X = some ⟨false,[.bool m.byp,.bool m.res,.bool m.rst,.bool m.cz,.bool m.sy]⟩) (hn : n ≤ 178) {K : List RItem}
  (hk : ∀ (H : Heap) (out : Value) (K0 K1 K2 K3 K4 K6 K7 K8 K9 Ka Kb Kc Kd Ke Kf Kg Kh Ki Kj Kk Kl Km Kn Ko Kp Kq Kr Ks Kt Ku Kv Kw Kx Ky Kz J0 J1 J2 J3 J4 J5 J6 J7 J8 : Value),OwnS H 1 out T.length (nI T) → (∀ id,sid out = some id → hB.length ≤ id) → (∀ id,id < hB.length → blk? H id = blk? hB id) → hB.length ≤ H.length → Ok tab R46 K #[K0,K1,K2,K3,K4,out,K6,K7,K8,K9,Ka,Kb,Kc,Kd,Ke,Kf,Kg,Kh,Ki,Kj,Kk,Kl,Km,Kn,Ko,Kp,Kq,Kr,Ks,Kt,Ku,Kv,Kw,Kx,Ky,Kz,J0,J1,J2,J3,J4,J5,J6,J7,J8] H R) :
  ∀ (f left : Nat) (gs : List Nat) (H : Heap) (out : Value) (K0 K1 K2 K4 K7 K8 K9 Ka Kb Kc Kd Ke Kf Kg Kh Ki Kj Kk Kl Km Kn Ko Kp Kq Kr Ks Kt Ku Kv Kw Kx Ky Kz J0 J1 J2 J3 J4 J5 J6 J7 J8 : Value),left ≤ f → left ≤ n → gs.length + left ≤ n → gs ++ sgGo m f (szAt m n gs.length) left = T → OwnS H 1 out gs.length (nI gs) → (∀ id,sid out = some id → hB.length ≤ id) → (∀ id,id < hB.length → blk? H id = blk? hB id) → hB.length ≤ H.length →
   Ok tab R46 (.inLoop L46_0 :: .inBlock 0 :: K) #[K0,K1,K2,ptr X,K4,out,.int .i64 (left : Nat),K7,K8,K9,Ka,Kb,Kc,Kd,Ke,Kf,Kg,Kh,Ki,Kj,Kk,Kl,Km,Kn,Ko,Kp,Kq,Kr,Ks,Kt,Ku,Kv,Kw,Kx,Ky,Kz,J0,J1,J2,J3,J4,J5,J6,J7,J8] H R := by
 intro f
 induction f with
 | zero =>
  intro left gs H out;intros;rename_i hl hln hgl hgo ho hf hs hle
  obtain rfl : left = 0 := by omega
  simp only [sgGo,List.append_nil] at hgo
  rw [hgo] at ho
  rw [ok_round,l46_0,L46_0a,L46_0b]
  simp
  exact hk H out _ _ _ _ _ _ _ _ _ _ _ _ _ _ _ _ _ _ _ _ _ _ _ _ _ _ _ _ _ _ _ _ _ _ _ _ _ _ _ _ _ _ _ _ ho hf hs hle
 | succ f ih =>
  intro left gs H out;intros;rename_i hl hln hgl hgo ho hf hs hle
  by_cases h0 : left = 0
  ·subst h0
   unfold sgGo at hgo
   rw [if_pos rfl,List.append_nil] at hgo
   rw [hgo] at ho
   rw [ok_round,l46_0,L46_0a,L46_0b]
   simp
   exact hk H out _ _ _ _ _ _ _ _ _ _ _ _ _ _ _ _ _ _ _ _ _ _ _ _ _ _ _ _ _ _ _ _ _ _ _ _ _ _ _ _ _ _ _ _ ho hf hs hle
  have hpos : (0 : Int) < (left : Int) := by omega
  have hpos' : 0 < left := by omega
  have w0 : IntKind.i64.wrap 0 = 0 := by decide
  have lX := blk?_lt hX
  have hXH : blk? H X = some ⟨false,[.bool m.byp,.bool m.res,.bool m.rst,.bool m.cz,.bool m.sy]⟩ := by rw [hs X lX]; exact hX
  obtain ⟨oa,oc,hout⟩ := ho.sl.shape
  have next : ∀ c : Nat,c = min (szAt m n gs.length) left → 1 ≤ c → ∃ H1,appendV (H ++ [some ⟨false,[.int .i64 (c : Nat)]⟩]) 1 8 out (.slice (some ⟨H.length,0,none⟩) 1 1) = some (.slice (some ⟨H.length + 1,0,none⟩) (gs.length + 1) 1,H1) ∧
    IntKind.i64.wrap ((left : Int) - (c : Nat)) = ((left - c : Nat) : Int) ∧
    ∀ (K0 K1 K2 K4 K7 K8 K9 Ka Kb Kc Kd Ke Kf Kg Kh Ki Kj Kk Kl Km Kn Ko Kp Kq Kr Ks Kt Ku Kv Kw Kx Ky Kz J0 J1 J2 J3 J4 J5 J6 J7 J8 : Value),Ok tab R46 (.inLoop L46_0 :: .inBlock 0 :: K) #[K0,K1,K2,ptr X,K4,.slice (some ⟨H.length + 1,0,none⟩) (gs.length + 1) 1,.int .i64 (left - c : Nat),K7,K8,K9,Ka,Kb,Kc,Kd,Ke,Kf,Kg,Kh,Ki,Kj,Kk,Kl,Km,Kn,Ko,Kp,Kq,Kr,Ks,Kt,Ku,Kv,Kw,Kx,Ky,Kz,J0,J1,J2,J3,J4,J5,J6,J7,J8] H1 R := by
   intro c hc hc1
   obtain ⟨H1,ha,hb1,hlen1,hk1⟩ := app1v (v := .int .i64 (c : Nat)) (bytes := 8) ho (by unfold roomCells; omega) (by omega)
   refine ⟨H1,ha,by rw [wrapI (by omega) (by omega)]; omega,fun K0 K1 K2 K4 K7 K8 K9 Ka Kb Kc Kd Ke Kf Kg Kh Ki Kj Kk Kl Km Kn Ko Kp Kq Kr Ks Kt Ku Kv Kw Kx Ky Kz J0 J1 J2 J3 J4 J5 J6 J7 J8 => ?_⟩
   have e : nI gs ++ [.int .i64 ((c : Nat) : Int)] = nI (gs ++ [c]) := by rw [nI,nI,List.map_append]; rfl
   rw [e] at hb1
   have egs : (gs ++ [c]).length = gs.length + 1 := by simp
   unfold sgGo at hgo
   rw [if_neg h0,← hc,szAt_next] at hgo
   have ih' := fun K0 K1 K2 K4 K7 K8 K9 Ka Kb Kc Kd Ke Kf Kg Kh Ki Kj Kk Kl Km Kn Ko Kp Kq Kr Ks Kt Ku Kv Kw Kx Ky Kz J0 J1 J2 J3 J4 J5 J6 J7 J8 => ih (left - c) (gs ++ [c]) H1 (.slice (some ⟨H.length + 1,0,none⟩) (gs.length + 1) 1) K0 K1 K2 K4 K7 K8 K9 Ka Kb Kc Kd Ke Kf Kg Kh Ki Kj Kk Kl Km Kn Ko Kp Kq Kr Ks Kt Ku Kv Kw Kx Ky Kz J0 J1 J2 J3 J4 J5 J6 J7 J8 (by omega) (by omega) (by rw [egs]; omega) (by rw [egs,List.append_assoc,List.singleton_append]; exact hgo) (by rw [egs]; exact ⟨by simp [nI],.inr ⟨_,rfl,hb1⟩⟩) (fun id hid => by simp [sid] at hid; omega) (fun id hid => by
    rw [hk1 id (by omega) (fun x => by have := hf id x; omega),hs id hid]) (by omega)
   exact ih' ..
  clear ih hk hgo
  rw [ok_round,l46_0,L46_0a,L46_0b]
  cases hr : m.res with
  | true =>
   obtain ⟨H1,ha,hw,fin'⟩ := next 1 (by unfold szAt; rw [if_pos hr]; omega) (by omega)
   have hw' : IntKind.i64.wrap ((left : Int) - 1) = ((left - 1 : Nat) : Int) := hw
   have ha' : appendV (H ++ [some ⟨false,[.int .i64 1]⟩]) 1 8 out (.slice (some ⟨H.length,0,none⟩) 1 1) = some (.slice (some ⟨H.length + 1,0,none⟩) (gs.length + 1) 1,H1) := ha
   rw [hr] at hXH
   generalize ((left - 1 : Nat) : Int) = l1 at *
   simp [repL,hpos,hpos',w0,hXH,ha',hw']
   exact fin' ..
  | false =>
   rw [hr] at hXH
   cases hb : m.byp with
   | false =>
    rw [hb] at hXH
    obtain ⟨H1,ha,hw,fin'⟩ := next left (by unfold szAt; rw [if_neg (by simp [hr]),if_neg (by simp [hb])]; omega) (by omega)
    rw [Nat.sub_self] at fin' hw
    generalize ((left : Nat) : Int) = li at *
    simp [repL,k_guard,k_guardU,hpos,hpos',w0,hXH,ha,hw]
    exact fin' ..
   | true =>
    rw [hb] at hXH
    by_cases hg0 : gs.length = 0
    ·obtain ⟨H1,ha,hw,fin'⟩ := next (min left 10) (by unfold szAt; rw [if_neg (by simp [hr]),if_pos hb,if_pos hg0]; omega) (by omega)
     have hmin : min (left : Int) 10 = ((min left 10 : Nat) : Int) := by omega
     rw [hout] at ha ⊢
     rw [hg0] at ha fin' ⊢
     generalize ((left - min left 10 : Nat) : Int) = l1 at *
     generalize ((min left 10 : Nat) : Int) = c1 at *
     generalize ((left : Nat) : Int) = li at *
     simp [repL,k_guard,k_guardU,hpos,hpos',w0,hXH,fold1,foldO,mn2,hmin,ha,hw]
     exact fin' ..
    ·obtain ⟨H1,ha,hw,fin'⟩ := next (min left (1 + gs.length % 2)) (by unfold szAt; rw [if_neg (by simp [hr]),if_pos hb,if_neg hg0]; omega) (by omega)
     have hg0' : (((gs.length : Nat) : Int) == 0) = false := by rw [beq_eq_false_iff_ne]; omega
     have hm1 : (((gs.length : Nat) : Int).tmod 2) = ((gs.length % 2 : Nat) : Int) := by rw [Int.tmod_eq_emod_of_nonneg (by omega)]; omega
     have hm2 : IntKind.i64.wrap (1 + ((gs.length % 2 : Nat) : Int)) = ((1 + gs.length % 2 : Nat) : Int) := by rw [wrapI (by omega) (by omega)]; omega
     have hmin : min (left : Int) ((1 + gs.length % 2 : Nat) : Int) = ((min left (1 + gs.length % 2) : Nat) : Int) := by omega
     rw [hout] at ha ⊢
     generalize ((left - min left (1 + gs.length % 2) : Nat) : Int) = l1 at *
     generalize ((min left (1 + gs.length % 2) : Nat) : Int) = c1 at *
     generalize ((1 + gs.length % 2 : Nat) : Int) = c2 at *
     generalize ((gs.length % 2 : Nat) : Int) = c3 at *
     generalize ((left : Nat) : Int) = li at *
     generalize gs.length = gl at *
     have hgl0 : gl ≠ 0 := hg0
     simp [repL,k_guard,k_guardU,hpos,hpos',w0,hXH,hg0',hg0,hm1,hm2,fold1,foldO,mn2,hmin,ha,hw]
     exact fin' ..
theorem segments_x {n : Nat} (hn : n ≤ 178) (m : MD) :
  ∃ v h',(∀ R,Ret tab 46 [.int .i64 (n : Nat),m.val] h R = R v h') ∧ Sl h' 1 v (segsOf m n).length (nI (segsOf m n)) ∧ (∀ id,sid v = some id → h.length ≤ id ∧ id < h'.length) ∧ (∀ id,id < h.length → blk? h' id = blk? h id) ∧ h.length ≤ h'.length := by
 have key : Ret tab 46 [.int .i64 (n : Nat),m.val] h fun v h' => Sl h' 1 v (segsOf m n).length (nI (segsOf m n)) ∧ (∀ id,sid v = some id → h.length ≤ id ∧ id < h'.length) ∧ (∀ id,id < h.length → blk? h' id = blk? h id) ∧ h.length ≤ h'.length := by
  generalize hH : h ++ [some (⟨false,[.bool m.byp,.bool m.res,.bool m.rst,.bool m.cz,.bool m.sy]⟩ : Blk)] = H
  have lH : H.length = h.length + 1 := by rw [← hH]; simp
  have bH : blk? H h.length = some ⟨false,[.bool m.byp,.bool m.res,.bool m.rst,.bool m.cz,.bool m.sy]⟩ := by rw [← hH]; exact blk?_push_eq
  have kH : ∀ id,id < h.length → blk? H id = blk? h id := fun id hid => by rw [← hH]; exact blk?_push_lt hid
  rw [enter46,show B46 = .seq (nthC 0 B46) (.seq (nthC 1 B46) (.seq (nthC 2 B46) (.seq (nthC 3 B46) (.seq (nthC 4 B46) (tlC 5 B46))))) from rfl]
  by_cases h1 : n < 1
  ·have h1' : (n : Int) < 1 := by omega
   have e : segsOf m n = [] := by unfold segsOf; rw [if_pos (.inl h1)]
   rw [e]
   generalize hT : tlC 5 B46 = tl at *
   simp only [nthC,tlC,fstC,B46]
   generalize ((n : Nat) : Int) = ni at *
   simp [k_guard,k_guardU,MD.val,hH,h1',fin46]
   exact ⟨(OwnS.nil H 1).sl,fun id hid => by simp [sid] at hid,kH,by omega⟩
  ·have h1' : ¬ (n : Int) < 1 := by omega
   have h2' : ¬ (178 : Int) < (n : Int) := by omega
   have e : segsOf m n = sgGo m n (szAt m n 0) n := by unfold segsOf; rw [if_neg (by omega),szAt_zero]
   rw [e]
   have L := fun K0 K1 K2 K4 K7 K8 K9 Ka Kb Kc Kd Ke Kf Kg Kh Ki Kj Kk Kl Km Kn Ko Kp Kq Kr Ks Kt Ku Kv Kw Kx Ky Kz J0 J1 J2 J3 J4 J5 J6 J7 J8 => seg14_loop (R := fun v h' => Sl h' 1 v (sgGo m n (szAt m n 0) n).length (nI (sgGo m n (szAt m n 0) n)) ∧ (∀ id,sid v = some id → h.length ≤ id ∧ id < h'.length) ∧ (∀ id,id < h.length → blk? h' id = blk? h id) ∧ h.length ≤ h'.length) (hB := H) bH hn (K := [.code (tlC 5 B46)])
    (fun G out K0 K1 K2 K3 K4 K6 K7 K8 K9 Ka Kb Kc Kd Ke Kf Kg Kh Ki Kj Kk Kl Km Kn Ko Kp Kq Kr Ks Kt Ku Kv Kw Kx Ky Kz J0 J1 J2 J3 J4 J5 J6 J7 J8 o f k l => by
     simp only [nthC,tlC,fstC,B46]
     simp [fin46]
     exact ⟨o.sl,fun id hid => ⟨by have := f id hid; omega,o.lt hid⟩,fun id hid => by rw [k id (by omega),kH id hid],by omega⟩) n n [] H (.slice none 0 0) K0 K1 K2 K4 K7 K8 K9 Ka Kb Kc Kd Ke Kf Kg Kh Ki Kj Kk Kl Km Kn Ko Kp Kq Kr Ks Kt Ku Kv Kw Kx Ky Kz J0 J1 J2 J3 J4 J5 J6 J7 J8 (Nat.le_refl _) (Nat.le_refl _) (by simp) (by simp) (OwnS.nil _ _) (fun id hid => by simp [sid] at hid) (fun _ _ => rfl) (Nat.le_refl _)
   generalize hT : tlC 5 B46 = tl at *
   simp only [nthC,tlC,fstC,B46]
   generalize ((n : Nat) : Int) = ni at *
   simp [k_guard,k_guardU,MD.val,hH,h1',h2']
   exact L ..
 obtain ⟨v,h',ee,a,b,c,d⟩ := ret_ex key
 exact ⟨v,h',ee,a,b,c,d⟩
end
section
variable {h h' : Heap} {R : RP} {e q N : Nat} {own : Nat → Prop} {st : S2}
end
section
variable {R : RP} {e q : Nat}
end
def SegAll (m : MD) : Nat → List Nat → Prop
 | _,[] => True
 | n,c :: cs => (∀ j,j < c → rawOf m (n + j) = rawOf m n) ∧ SegAll m (n + c) cs
theorem segAll_plain {m : MD} (hb : m.byp = false) : ∀ (l : List Nat) (n : Nat),SegAll m n l
 | [],_ => trivial
 | c :: cs,n => ⟨fun j _ => by simp [rawOf,hb],segAll_plain hb cs (n + c)⟩
theorem segAll_ones {m : MD} : ∀ (l : List Nat) (n : Nat),(∀ c ∈ l,c ≤ 1) → SegAll m n l
 | [],_,_ => trivial
 | c :: cs,n,h => ⟨fun j hj => by
   have := h c (List.mem_cons_self ..)
   have : j = 0 := by omega
   subst this; rfl,segAll_ones cs (n + c) fun x hx => h x (List.mem_cons_of_mem _ hx)⟩
theorem segAll_byp {m : MD} (hb : m.byp = true) (hr : m.res = false) : ∀ (f sz left n : Nat),(sz = 10 ∧ n = 0) ∨ (sz = 2 ∧ n % 3 = 1 ∧ 10 ≤ n) ∨ (sz = 1 ∧ n % 3 = 0 ∧ 12 ≤ n) → SegAll m n (sgGo m f sz left)
 | 0,_,_,_,_ => trivial
 | f + 1,sz,left,n,h => by
  have hnx : sgNext m sz = if sz = 2 then 1 else 2 := by unfold sgNext; rw [if_pos ⟨hb,hr⟩]
  unfold sgGo
  by_cases h0 : left = 0
  ·rw [if_pos h0]; trivial
  ·rw [if_neg h0]
   refine ⟨fun j hj => ?_,?_⟩
   ·rcases h with ⟨rfl,rfl⟩ | ⟨rfl,h2,h3⟩ | ⟨rfl,h2,h3⟩
    ·have e : ∀ k,k < 10 → rawOf m k = false := fun k hk => by
      have : planeOf k < 4 := by unfold planeOf; split <;> omega
      simp only [rawOf,Bool.and_eq_false_iff,decide_eq_false_iff_not]
      left; right; omega
     rw [e (0 + j) (by omega),e 0 (by omega)]
    ·have e : ∀ k,10 ≤ k → (k % 3 = 1 ∨ k % 3 = 2) → rawOf m k = true := fun k hk hk3 => by
      have e1 : planeOf k = (k - 1) / 3 + 1 := by unfold planeOf; rw [if_neg (by omega)]
      have e2 : kindOf k = (k - 1) % 3 := by unfold kindOf; rw [if_neg (by omega)]
      simp only [rawOf,hb,Bool.true_and,Bool.and_eq_true,decide_eq_true_eq,e1,e2]
      omega
     rw [e (n + j) (by omega) (by omega),e n (by omega) (by omega)]
    ·have : j = 0 := by omega
     subst this; rfl
   ·by_cases hlt : left < sz
    ·have e : left - min sz left = 0 := by omega
     rw [e]
     cases f with
     | zero => trivial
     | succ f => unfold sgGo; rw [if_pos rfl]; trivial
    ·have e : min sz left = sz := by omega
     rw [e]
     refine segAll_byp hb hr f _ _ _ ?_
     rw [hnx]
     rcases h with ⟨rfl,rfl⟩ | ⟨rfl,h2,h3⟩ | ⟨rfl,h2,h3⟩
     ·right; left; simp
     ·right; right; simp; omega
     ·right; left; simp; omega
theorem segAll_all (m : MD) (n : Nat) : SegAll m 0 (segsOf m n) := by
 unfold segsOf
 split
 ·trivial
 ·cases hb : m.byp with
  | false => exact segAll_plain hb _ _
  | true =>
   cases hr : m.res with
   | true =>
    have : sgFirst m n = 1 := by unfold sgFirst; rw [if_pos hr]
    rw [this]
    exact segAll_ones _ _ (sgGo_ones hr _ _)
   | false =>
    have : sgFirst m n = 10 := by unfold sgFirst; rw [if_neg (by simp [hr]),if_pos hb]
    rw [this]
    exact segAll_byp hb hr _ _ _ _ (.inl ⟨rfl,rfl⟩)
section
variable {R : RP} {e pb lb : Nat} {a : AE}
end
theorem q_out0 {m : MD} {b : BS} {i : Nat} {pl o : Int} (hr : rawOf m i = false) (a : AD) (rd : List Nat × Nat) (l : List (Int × Nat)) :
  dOut QR.ask m b i pl o ⟨true,a,rd,l⟩ = ((dOut RS.ask m b i pl o ⟨a,none,l⟩).1,⟨true,(dOut RS.ask m b i pl o ⟨a,none,l⟩).2.a,rd,(dOut RS.ask m b i pl o ⟨a,none,l⟩).2.l⟩) ∧ (dOut RS.ask m b i pl o ⟨a,none,l⟩).2.raw = none := by
 unfold dOut
 split
 ·exact run_none _ a rd l (by rw [← hr]; exact cx_dRun m b i _ _)
 ·exact ⟨rfl,rfl⟩
theorem q_out1 {m : MD} {b : BS} {i : Nat} {pl o : Int} (hr : rawOf m i = true) (on : Bool) (a : AD) (xs : List Nat) (n : Nat) (l : List (Int × Nat)) :
  ∃ n',dOut QR.ask m b i pl o ⟨on,a,(xs,n),l⟩ = ((dOut RS.ask m b i pl o ⟨a,some (xs,n),l⟩).1,⟨on,a,(xs,n'),(dOut RS.ask m b i pl o ⟨a,some (xs,n),l⟩).2.l⟩) ∧ (dOut RS.ask m b i pl o ⟨a,some (xs,n),l⟩).2.raw = some (xs,n') ∧ (dOut RS.ask m b i pl o ⟨a,some (xs,n),l⟩).2.a = a := by
 unfold dOut
 split
 ·exact run_some on _ a xs n l (by rw [← hr]; exact cx_dRun m b i _ _)
 ·exact ⟨n,rfl,rfl,rfl⟩
structure ZD (h : Heap) (d pb : Nat) (dv : Value) (D : List Nat) (on : Bool) (a : AD) (N : Nat) : Prop where
 dec : ∃ n,n ≤ N ∧ ((on = true ∧ DA h d pb dv D n a) ∨ (on = false ∧ DP h d pb dv D n a.p a.value a.size false))
 h19 : a.p.length = 19
 ps : PsOk a.p
 dig : Dig D
 dl : D.length < 100000000
section
variable {h h' : Heap} {d pb : Nat} {dv : Value} {D : List Nat} {on : Bool} {a : AD} {N : Nat}
theorem ZD.dp (Z : ZD h d pb dv D on a N) : ∃ n st,DP h d pb dv D n a.p a.value a.size st := by
 obtain ⟨n,_,⟨_,I⟩ | ⟨_,I⟩⟩ := Z.dec
 ·exact ⟨n,true,I.dp⟩
 ·exact ⟨n,false,I⟩
theorem ZD.lt (Z : ZD h d pb dv D on a N) {id : Nat} (hid : ownE d pb dv id) : id < h.length := by
 obtain ⟨n,st,I⟩ := Z.dp
 exact I.own_lt hid
theorem ZD.keep (Z : ZD h d pb dv D on a N) (hk : ∀ id,ownE d pb dv id → blk? h' id = blk? h id) : ZD h' d pb dv D on a N := by
 refine ⟨?_,Z.h19,Z.ps,Z.dig,Z.dl⟩
 obtain ⟨n,hn,⟨ho,I⟩ | ⟨ho,I⟩⟩ := Z.dec
 ·exact ⟨n,hn,.inl ⟨ho,⟨I.dp.keep hk,I.rest,I.ok,I.pos⟩⟩⟩
 ·exact ⟨n,hn,.inr ⟨ho,I.keep hk⟩⟩
theorem ZD.mono (Z : ZD h d pb dv D on a N) {M : Nat} (hM : N ≤ M) : ZD h d pb dv D on a M := by
 obtain ⟨n,hn,x⟩ := Z.dec
 exact ⟨⟨n,by omega,x⟩,Z.h19,Z.ps,Z.dig,Z.dl⟩
theorem ZD.back (Z : ZD h d pb dv D true a N) :
  ∃ h' pb',(∀ R : RP,Ret tab 76 [ptr d] h R = R (.tuple #[]) h') ∧ ZD h' d pb' dv D true a.back N ∧ (∀ id,ownE d pb' dv id → ownE d pb dv id ∨ h.length ≤ id) ∧ (∀ id,id < h.length → ¬ ownE d pb dv id → blk? h' id = blk? h id) ∧ h.length ≤ h'.length := by
 obtain ⟨n,hn,⟨_,I⟩ | ⟨x,_⟩⟩ := Z.dec
 ·obtain ⟨h',pb',e,I2,l1,l2,k2,l3⟩ := zreset_c I.dp I.pos (by have := Z.h19; omega)
  refine ⟨h',pb',e,⟨⟨n,hn,.inl ⟨rfl,⟨I2,I.rest,⟨base_ok _,I.ok.dig,I.ok.v,I.ok.s1,I.ok.s2⟩,by simpa [AD.back,AE.base] using I.pos⟩⟩⟩,by simpa [AD.back,AE.base] using Z.h19,base_ok _,Z.dig,Z.dl⟩,fun id hid => ?_,fun id h1 h2 => k2 id h1 fun x => h2 (.inl x),l3⟩
  rcases hid with x | x | x
  ·exact .inl (.inl x)
  ·right; omega
  ·exact .inl (.inr (.inr x))
 ·cases x
end
def ownZq (d pb q : Nat) (dv rs : Value) (id : Nat) : Prop := ownE d pb dv id ∨ ownR q rs id
structure ZI (Q : Nat → Prop) (hB h : Heap) (X6 X11 p c d pb q : Nat) (pl : Int) (pv dv0 : Value) (m : MD) (dv rs : Value) (D : List Nat) (on : Bool) (rd : List Nat × Nat) (lv : Value) (vs : List Value) (s : Rdg) (N : Nat) : Prop where
 b6 : blk? h X6 = some ⟨false,[.int .i64 pl,pv,dv0]⟩
 b11 : blk? h X11 = some ⟨false,[.bool m.byp,.bool m.res,.bool m.rst,.bool m.cz,.bool m.sy]⟩
 cb : CB h false p c s.b
 good : s.b.Good
 zd : ZD h d pb dv D on s.a N
 rdr : RB h q rs rd.1 rd.2
 rn : rd.2 ≤ N
 d1 : ∀ id,ownE d pb dv id → ¬ ownR q rs id
 ol : OwnS h 1 lv vs.length vs
 vl : vs.length = s.ls.length
 each : ∀ i (h1 : i < vs.length) (h2 : i < s.ls.length),OwnS h 2 vs[i] s.ls[i].length (encS s.ls[i])
 kp : ∀ id,KpO Q X6 X11 p vs id → ¬ ownZq d pb q dv rs id ∧ id ≠ c ∧ sid lv ≠ some id ∧ id < h.length
 no : ∀ id,ownZq d pb q dv rs id → id ≠ c ∧ sid lv ≠ some id
 nl : sid lv ≠ some c
 low : ∀ id,Q id → blk? h id = blk? hB id
 len : hB.length ≤ h.length
 small : ∀ l ∈ s.ls,l.length ≤ 20000
 cB : ¬ Q c ∧ c ≠ X6 ∧ c ≠ X11
section
variable {R : RP} {h : Heap}
theorem zpass_loop {Q : Nat → Prop} {hB : Heap} {X6 X11 p c d q : Nat} {pl o : Int} {pv dv0 v20 v22 gv dv rs : Value} {D : List Nat} {m : MD} {rw : Bool} {gs : List Nat} {gi cnt : Nat} {k : List RItem} {sF : Rdg}
  (hg : Sl hB 1 gv gs.length (nI gs)) (hgq : ∀ id,sid gv = some id → Q id) (hgl : gi < gs.length) (hcnt : gs[gi] = cnt) (hc178 : cnt ≤ 178)
  (hk : ∀ (h : Heap) (pb : Nat) (on : Bool) (rd : List Nat × Nat) (lv : Value) (vs : List Value) (N : Nat) (K0 K1 K2 K3 K5 K7 K8 K9 Ka Kc Kf Kh Kn Ko Kp Kq Kr Ks Kt Ku Kv Kw Kx Ky Kz J0 J1 J2 J3 J4 J5 J6 J7 J8 J9 Ja Jb Jc Jd Je Jf Jg Jh Ji Jj Jk Jl Jm Jn Jo Jp Jq Jr Js Jt Ju Jv Jw Jx Jy Jz Y0 Y1 Y2 Y3 Y4 Y5 Y6 Y7 Y8 Y9 Ya Yb Yc Yd Ye Yf Yg Yh Yi Yj Yk Yl Ym Yn Yo Yp Yq Yr Ys Yt Yu Yv Yw Yx Yy Yz Z0 Z1 Z2 Z3 Z4 Z5 Z6 : Value),ZI Q hB h X6 X11 p c d pb q pl pv dv0 m dv rs D on rd lv vs sF N → N ≤ sF.ls.length * 20000 + 4 →
   Ok tab R31 k #[K0,K1,K2,K3,.int .i64 o,K5,ptr X6,K7,K8,K9,Ka,ptr X11,Kc,lv,ptr p,Kf,ptr d,Kh,gv,.int .i64 (sF.ls.length : Nat),v20,.int .i64 (gi : Nat),v22,Kn,Ko,Kp,Kq,Kr,Ks,Kt,Ku,Kv,Kw,Kx,Ky,Kz,J0,J1,J2,J3,J4,J5,J6,J7,J8,J9,Ja,Jb,Jc,Jd,Je,Jf,Jg,Jh,Ji,Jj,Jk,Jl,Jm,Jn,Jo,Jp,Jq,Jr,Js,Jt,Ju,Jv,Jw,Jx,Jy,Jz,Y0,Y1,Y2,Y3,Y4,Y5,Y6,Y7,Y8,Y9,Ya,Yb,Yc,Yd,Ye,Yf,Yg,Yh,Yi,Yj,Yk,Yl,Ym,Yn,Yo,Yp,Yq,Yr,Ys,Yt,Yu,Yv,Yw,Yx,Yy,Yz,Z0,Z1,Z2,Z3,Z4,Z5,Z6] h R) :
  ∀ (j kk : Nat) (h : Heap) (pb : Nat) (on : Bool) (rd : List Nat × Nat) (lv : Value) (vs : List Value) (s : Rdg) (N : Nat) (K0 K1 K2 K3 K5 K7 K8 K9 Ka Kc Kf Kh Kq Kr Ks Kt Ku Kv Kw Kx Ky Kz J0 J1 J2 J3 J4 J5 J6 J7 J8 J9 Ja Jb Jc Jd Je Jf Jg Jh Ji Jj Jk Jl Jm Jn Jo Jp Jq Jr Js Jt Ju Jv Jw Jx Jy Jz Y0 Y1 Y2 Y3 Y4 Y5 Y6 Y7 Y8 Y9 Ya Yb Yc Yd Ye Yf Yg Yh Yi Yj Yk Yl Ym Yn Yo Yp Yq Yr Ys Yt Yu Yv Yw Yx Yy Yz Z0 Z1 Z2 Z3 Z4 Z5 Z6 : Value),kk + j = cnt → ZI Q hB h X6 X11 p c d pb q pl pv dv0 m dv rs D on rd lv vs s N → s.ls.length + j ≤ 178 → N ≤ s.ls.length * 20000 + 4 →
   (∀ i,i < j → rawOf m (s.ls.length + i) = rw) → ((rw = false → on = true ∧ s.raw = none) ∧ (rw = true → s.raw = some rd)) → passesR m pl o j s.ls.length s = sF →
   Ok tab R31 (.inLoop L31_0 :: .inBlock 2 :: k) #[K0,K1,K2,K3,.int .i64 o,K5,ptr X6,K7,K8,K9,Ka,ptr X11,Kc,lv,ptr p,Kf,ptr d,Kh,gv,.int .i64 (s.ls.length : Nat),v20,.int .i64 (gi : Nat),v22,.bool rw,ptr q,.int .i64 (kk : Nat),Kq,Kr,Ks,Kt,Ku,Kv,Kw,Kx,Ky,Kz,J0,J1,J2,J3,J4,J5,J6,J7,J8,J9,Ja,Jb,Jc,Jd,Je,Jf,Jg,Jh,Ji,Jj,Jk,Jl,Jm,Jn,Jo,Jp,Jq,Jr,Js,Jt,Ju,Jv,Jw,Jx,Jy,Jz,Y0,Y1,Y2,Y3,Y4,Y5,Y6,Y7,Y8,Y9,Ya,Yb,Yc,Yd,Ye,Yf,Yg,Yh,Yi,Yj,Yk,Yl,Ym,Yn,Yo,Yp,Yq,Yr,Ys,Yt,Yu,Yv,Yw,Yx,Yy,Yz,Z0,Z1,Z2,Z3,Z4,Z5,Z6] h R := by
 intro j
 induction j with
 | zero =>
  intro kk h pb on rd lv vs s N;intros;rename_i hkk I hq hN hrw hlk hF
  simp only [passesR] at hF
  subst hF
  obtain rfl : kk = cnt := by omega
  have hg2 : Sl h 1 gv gs.length (nI gs) := hg.of_sid fun id b hid hb => by rw [I.low id (hgq id hid)]; exact hb
  obtain ⟨gid,goff,gb,egv,hgb,hgc⟩ := hg2.get hgl
  have hgd0 : gs.getD gi 0 = gs[gi] := by rw [List.getD_eq_getElem?_getD,List.getElem?_eq_getElem hgl]; rfl
  have hgc0 := hgc 0 (by omega)
  rw [Nat.mul_one,Nat.add_zero,Nat.add_zero,nI_get hgl,hgd0,hcnt] at hgc0
  have hlt : (gi : Int) < (gs.length : Int) := by omega
  have hk' := fun K0 K1 K2 K3 K5 K7 K8 K9 Ka Kc Kf Kh Kn Ko Kp Kq Kr Ks Kt Ku Kv Kw Kx Ky Kz J0 J1 J2 J3 J4 J5 J6 J7 J8 J9 Ja Jb Jc Jd Je Jf Jg Jh Ji Jj Jk Jl Jm Jn Jo Jp Jq Jr Js Jt Ju Jv Jw Jx Jy Jz Y0 Y1 Y2 Y3 Y4 Y5 Y6 Y7 Y8 Y9 Ya Yb Yc Yd Ye Yf Yg Yh Yi Yj Yk Yl Ym Yn Yo Yp Yq Yr Ys Yt Yu Yv Yw Yx Yy Yz Z0 Z1 Z2 Z3 Z4 Z5 Z6 => hk h pb on rd lv vs N K0 K1 K2 K3 K5 K7 K8 K9 Ka Kc Kf Kh Kn Ko Kp Kq Kr Ks Kt Ku Kv Kw Kx Ky Kz J0 J1 J2 J3 J4 J5 J6 J7 J8 J9 Ja Jb Jc Jd Je Jf Jg Jh Ji Jj Jk Jl Jm Jn Jo Jp Jq Jr Js Jt Ju Jv Jw Jx Jy Jz Y0 Y1 Y2 Y3 Y4 Y5 Y6 Y7 Y8 Y9 Ya Yb Yc Yd Ye Yf Yg Yh Yi Yj Yk Yl Ym Yn Yo Yp Yq Yr Ys Yt Yu Yv Yw Yx Yy Yz Z0 Z1 Z2 Z3 Z4 Z5 Z6 I hN
  rw [egv] at hk' ⊢
  rw [ok_round,l31_0,L31_0a,L31_0b]
  simp [hgb,hgc0,hlt]
  exact hk' ..
 | succ j ih =>
  intro kk h pb on rd lv vs s N;intros;rename_i hkk I hq hN hrw hlk hF
  have hg2 : Sl h 1 gv gs.length (nI gs) := hg.of_sid fun id b hid hb => by rw [I.low id (hgq id hid)]; exact hb
  obtain ⟨gid,goff,gb,egv,hgb,hgc⟩ := hg2.get hgl
  have hgd0 : gs.getD gi 0 = gs[gi] := by rw [List.getD_eq_getElem?_getD,List.getElem?_eq_getElem hgl]; rfl
  have hgc0 := hgc 0 (by omega)
  rw [Nat.mul_one,Nat.add_zero,Nat.add_zero,nI_get hgl,hgd0,hcnt] at hgc0
  have hlt : (gi : Int) < (gs.length : Int) := by omega
  have hkc : (kk : Int) < (cnt : Int) := by omega
  have hr0 : rawOf m s.ls.length = rw := hrw 0 (by omega)
  obtain ⟨la,lc,hlv⟩ := I.ol.sl.shape
  have hvl := I.vl
  have kk6 := I.kp X6 (.inr (.inl rfl))
  have kk11 := I.kp X11 (.inr (.inr (.inl rfl)))
  have kkp := I.kp p (.inr (.inr (.inr (.inl rfl))))
  have rdlt : ∀ id,ownR q rs id → id < h.length := fun id hid => I.rdr.own_lt hid
  have zdlt : ∀ id,ownE d pb dv id → id < h.length := fun id hid => I.zd.lt hid
  have stepA : ∃ hA pbA,(m.rst = true → rw = false → ∀ R : RP,Ret tab 76 [ptr d] h R = R (.tuple #[]) hA) ∧ (¬ (m.rst = true ∧ rw = false) → hA = h) ∧ ZD hA d pbA dv D on (if m.rst = true ∧ rawOf m s.ls.length = false then s.a.back else s.a) N ∧ (∀ id,ownE d pbA dv id → ownE d pb dv id ∨ h.length ≤ id) ∧ (∀ id,id < h.length → ¬ ownE d pb dv id → blk? hA id = blk? h id) ∧ h.length ≤ hA.length := by
   by_cases hr : m.rst = true ∧ rw = false
   ·obtain ⟨hon,_⟩ := hlk.1 hr.2
    subst hon
    obtain ⟨hA,pbA,e,Z,f,k1,l1⟩ := I.zd.back
    exact ⟨hA,pbA,fun _ _ => e,fun x => absurd hr x,by rw [hr0,if_pos hr]; exact Z,f,k1,l1⟩
   ·exact ⟨h,pb,fun x y => absurd ⟨x,y⟩ hr,fun _ => rfl,by rw [hr0,if_neg hr]; exact I.zd,fun _ x => .inl x,fun _ _ _ => rfl,Nat.le_refl _⟩
  obtain ⟨hA,pbA,eA,nA,zA,fA,kA,lA⟩ := stepA
  generalize ha1 : (if m.rst = true ∧ rawOf m s.ls.length = false then s.a.back else s.a) = a1 at *
  generalize hB2 : hA ++ [some (⟨false,[ptr d,ptr q,.slice none 0 0,.slice none 0 0]⟩ : Blk)] = h2
  have l2 : h2.length = hA.length + 1 := by rw [← hB2]; simp
  have k2 : ∀ id,id < hA.length → blk? h2 id = blk? hA id := fun id hid => by rw [← hB2]; exact blk?_push_lt hid
  have b2k : blk? h2 hA.length = some ⟨false,[ptr d,ptr q,.slice none 0 0,.slice none 0 0]⟩ := by rw [← hB2]; exact blk?_push_eq
  have keep2 : ∀ id,id < h.length → ¬ ownE d pb dv id → blk? h2 id = blk? h id := fun id h1 h3 => by rw [k2 id (by omega),kA id h1 h3]
  have hcl := blk?_lt I.cb.blkc
  have hnE : ∀ id,¬ ownZq d pb q dv rs id → ¬ ownE d pb dv id := fun id x y => x (.inl y)
  have hno : ¬ ownE d pb dv c := fun x => (I.no c (.inl x)).1 rfl
  have cb2 : CB h2 false p c s.b := ⟨by rw [keep2 p kkp.2.2.2 (hnE _ kkp.1)]; exact I.cb.blkp,by rw [keep2 c hcl hno]; exact I.cb.blkc,I.cb.ok⟩
  have newE : ∀ id,ownE d pbA dv id ∨ ownR q rs id → ownZq d pb q dv rs id ∨ (h.length ≤ id ∧ id < hA.length) := fun id hid => by
   rcases hid with x | x
   ·rcases fA id x with y | y
    ·exact .inl (.inl y)
    ·exact .inr ⟨y,zA.lt x⟩
   ·exact .inl (.inr x)
  have zlt : ∀ id,ownZq d pb q dv rs id → id < h.length := fun id hid => hid.elim (zdlt id) (rdlt id)
  have r2 : QRel d pbA q hA.length c N dv rs D h2 (.slice none 0 0) ⟨on,a1,rd,[]⟩ := by
   have Z2 := zA.keep (h' := h2) fun id hid => k2 id (zA.lt hid)
   refine ⟨b2k,?_,zA.dig,zA.dl,zA.h19,I.rdr.keep fun id hid => keep2 id (rdlt id hid) (fun x => I.d1 id x hid),by have := I.rn; simp; omega,OwnS.nil _ _,fun id hid hx => ?_,fun id hid => ?_,⟨by simp [sid],by simp [sid]⟩,by omega,by omega,by omega⟩
   ·obtain ⟨n,hn,x⟩ := Z2.dec
    exact ⟨n,by simp; omega,x⟩
   ·rcases fA id hid with y | y
    ·exact I.d1 id y hx
    ·have := rdlt id hx; omega
   ·refine ⟨?_,by simp [sid],?_⟩
    ·rcases newE id hid with y | y
     ·have := zlt id y; omega
     ·omega
    ·rcases newE id hid with y | y
     ·exact (I.no id y).1
     ·omega
  obtain ⟨t',h3,e3,D3⟩ := run_q (A := qSrc d pbA q hA.length c N dv rs D) (t := (.slice none 0 0 : Value)) (s := ⟨on,a1,rd,[]⟩) cb2 I.good.rng r2
   (by
    rintro (x | x | x)
    ·rcases newE p x with y | y
     ·exact kkp.1 y
     ·have := kkp.2.2.2; omega
    ·have := kkp.2.2.2; omega
    ·simp [sid] at x) (by omega) (by show 0 + 100000 < 1000000; omega) (s.ls.length : Int) pl o m
  change Value at t'
  have hR3 : passR m pl o s.ls.length s.a s.raw s.b = dOut RS.ask m s.b s.ls.length pl o ⟨a1,s.raw,[]⟩ := by unfold passR; rw [ha1]
  have hlen3 := dOut_len (m := m) I.good pl o s.ls.length ⟨a1,s.raw,[]⟩
  have e3' : ∀ R : RP,Ret tab 77 [ptr p,.int .i64 (s.ls.length : Nat),.int .i64 pl,.int .i64 o,m.val,ptr hA.length] h2 R = R (.int .i64 (dErr s.ls.length pl o (dOut QR.ask m s.b s.ls.length pl o ⟨on,a1,rd,[]⟩).1.2)) h3 := e3
  have cb3 : CB h3 false p c (dOut QR.ask m s.b s.ls.length pl o ⟨on,a1,rd,[]⟩).1.1 := D3.cb
  have good3 : (dOut QR.ask m s.b s.ls.length pl o ⟨on,a1,rd,[]⟩).1.1.Good := D3.good
  have r3 : QRel d pbA q hA.length c N dv rs D h3 t' (dOut QR.ask m s.b s.ls.length pl o ⟨on,a1,rd,[]⟩).2 := D3.rel
  have S3 : Stq h2 h3 c (ownQ d pbA q hA.length dv rs (.slice none 0 0)) (ownQ d pbA q hA.length dv rs t') := D3.st
  clear e3 D3
  have link : ∃ rd',dOut QR.ask m s.b s.ls.length pl o ⟨on,a1,rd,[]⟩ = ((dOut RS.ask m s.b s.ls.length pl o ⟨a1,s.raw,[]⟩).1,⟨on,(dOut RS.ask m s.b s.ls.length pl o ⟨a1,s.raw,[]⟩).2.a,rd',(dOut RS.ask m s.b s.ls.length pl o ⟨a1,s.raw,[]⟩).2.l⟩) ∧
    ((rw = false → on = true ∧ (dOut RS.ask m s.b s.ls.length pl o ⟨a1,s.raw,[]⟩).2.raw = none) ∧ (rw = true → (dOut RS.ask m s.b s.ls.length pl o ⟨a1,s.raw,[]⟩).2.raw = some rd')) ∧ (rw = true → (dOut RS.ask m s.b s.ls.length pl o ⟨a1,s.raw,[]⟩).2.a = a1) := by
   cases hw : rw with
   | false =>
    obtain ⟨x1,x2⟩ := hlk.1 hw
    rw [x2,x1]
    obtain ⟨y1,y2⟩ := q_out0 (m := m) (b := s.b) (i := s.ls.length) (pl := pl) (o := o) (hr0.trans hw) a1 rd []
    exact ⟨rd,y1,⟨fun _ => ⟨rfl,y2⟩,fun x => by cases x⟩,fun x => by cases x⟩
   | true =>
    obtain ⟨rx,rn⟩ := rd
    rw [hlk.2 hw]
    obtain ⟨n',y1,y2,y3⟩ := q_out1 (m := m) (b := s.b) (i := s.ls.length) (pl := pl) (o := o) (hr0.trans hw) on a1 rx rn []
    exact ⟨(rx,n'),by rw [y1,y3],⟨fun x => (by cases x),fun _ => y2⟩,fun _ => y3⟩
  obtain ⟨rd',elink,hlk',ha3⟩ := link
  rw [elink] at e3' cb3 good3 r3
  clear elink
  simp only [passesR,hR3] at hF
  generalize dOut RS.ask m s.b s.ls.length pl o ⟨a1,s.raw,[]⟩ = r at *
  obtain ⟨⟨b3,ok3⟩,st3⟩ := r
  simp only at e3' cb3 good3 r3 hF hlen3 hlk' ha3
  have len3 := S3.len
  have lvlt : ∀ id,sid lv = some id → id < h.length := fun id hid => I.ol.lt hid
  have hlen3' : st3.l.length ≤ 20000 := by simpa using hlen3
  have fresh3 : ∀ id,ownQ d pbA q hA.length dv rs t' id → ownZq d pb q dv rs id ∨ h.length ≤ id := fun id hid => by
   rcases S3.fresh id hid with (x | x | x) | x
   ·exact (newE id x).imp_right fun y => y.1
   ·right; omega
   ·simp [sid] at x
   ·right; omega
  have old3 : ∀ id,id < h.length → ¬ ownZq d pb q dv rs id → ¬ ownQ d pbA q hA.length dv rs (.slice none 0 0) id := fun id h1 h2 hid => by
   rcases hid with x | x | x
   ·exact (newE id x).elim h2 fun y => by omega
   ·omega
   ·simp [sid] at x
  have keep3 : ∀ id,id < h.length → id ≠ c → ¬ ownZq d pb q dv rs id → blk? h3 id = blk? h id := fun id h1 hc ho => by
   rw [S3.same id (by omega) hc (old3 id h1 ho),keep2 id h1 (hnE id ho)]
  generalize hH4 : h3 ++ [some (⟨false,[t']⟩ : Blk)] = h4
  have l4 : h4.length = h3.length + 1 := by rw [← hH4]; simp
  have k4 : ∀ id,id < h3.length → blk? h4 id = blk? h3 id := fun id hid => by rw [← hH4]; exact blk?_push_lt hid
  have b4 : blk? h4 h3.length = some ⟨false,[t']⟩ := by rw [← hH4]; exact blk?_push_eq
  have ol4 : OwnS h4 1 lv vs.length vs := own_lv I.ol fun id hid => by
   have := lvlt id hid
   rw [k4 id (by omega),keep3 id this (fun x => I.nl (by rw [← x]; exact hid)) (fun x => (I.no id x).2 hid)]
  have ht4 : Sl h4 1 (.slice (some ⟨h3.length,0,none⟩) 1 1) 1 [t'] := ⟨rfl,.inr ⟨h3.length,0,rfl,.inr ⟨_,b4,by simp,by simp⟩⟩⟩
  obtain ⟨h5,a5,b5,l5,k5⟩ := own_append (bytes := 24) ol4 ht4 (by unfold roomCells; omega) (by omega) (by omega)
  rw [l4] at a5 b5 l5 k5
  have keep5 : ∀ id,id < h3.length → sid lv ≠ some id → blk? h5 id = blk? h3 id := fun id h1 h2 => by rw [k5 id (by omega) h2,k4 id h1]
  have keep : ∀ id,KpO Q X6 X11 p vs id → blk? h5 id = blk? h id := fun id hid => by
   obtain ⟨q1,q2,q3,q4⟩ := I.kp id hid
   rw [keep5 id (by omega) q3,keep3 id q4 q2 q1]
  have lvfresh : ∀ id,ownQ d pbA q hA.length dv rs t' id → sid lv ≠ some id := fun id hid hx => by
   have := lvlt id hx
   rcases fresh3 id hid with x | x
   ·exact (I.no id x).2 hx
   ·omega
  obtain ⟨c1,c2,c3⟩ := I.cB
  have hps3 : PsOk st3.a.p := by
   obtain ⟨n,_,⟨_,J⟩ | ⟨ho,_⟩⟩ := r3.dec
   ·exact J.ok.ps
   ·cases hw : rw with
    | false => exact absurd (hlk.1 hw).1 (by simp only at ho; rw [ho]; decide)
    | true => rw [ha3 hw]; exact zA.ps
  have I5 : ZI Q hB h5 X6 X11 p c d pbA q pl pv dv0 m dv rs D on rd' (.slice (some ⟨h3.length + 1,0,none⟩) (vs.length + 1) 1) (vs ++ [t']) ⟨st3.a,st3.raw,b3,sndR pl o s.ls.length ok3 s.snd,s.ls ++ [st3.l]⟩ (N + st3.l.length) := by
   have lenB := I.len
   have hcl3 := blk?_lt cb3.blkc
   have hpl3 := blk?_lt cb3.blkp
   have kq : ∀ id,ownQ d pbA q hA.length dv rs t' id → blk? h5 id = blk? h3 id := fun id hid => keep5 id (r3.own_lt hid) (lvfresh id hid)
   refine ⟨by rw [keep X6 (.inr (.inl rfl))]; exact I.b6,by rw [keep X11 (.inr (.inr (.inl rfl)))]; exact I.b11,⟨by rw [keep5 p hpl3 kkp.2.2.1]; exact cb3.blkp,by rw [keep5 c hcl3 I.nl]; exact cb3.blkc,cb3.ok⟩,good3,
    ZD.keep (h := h3) ⟨r3.dec,r3.h19,hps3,r3.dig,r3.dl⟩ fun id hid => kq id (.inl (.inl hid)),r3.rdr.keep fun id hid => kq id (.inl (.inr hid)),r3.rn,r3.d1,⟨by simp,.inr ⟨h3.length + 1,by simp,b5⟩⟩,by simp [hvl],fun i h1 h2 => ?_,fun id hid => ?_,fun id hid => ?_,?_,fun id hid => ?_,by omega,fun l hl => ?_,⟨c1,c2,c3⟩⟩
   ·by_cases hi : i < vs.length
    ·have hi2 : i < s.ls.length := by omega
     have e1 : (vs ++ [t'])[i] = vs[i] := by rw [List.getElem_append_left hi]
     have e2 : (s.ls ++ [st3.l])[i] = s.ls[i] := by rw [List.getElem_append_left hi2]
     simp only [e1,e2]
     exact own_lv (I.each i hi hi2) fun id hid => keep id (.inr (.inr (.inr (.inr ⟨_,List.getElem_mem hi,hid⟩))))
    ·simp only [List.length_append,List.length_singleton] at h1
     have hie : i = vs.length := by omega
     subst hie
     have e1 : (vs ++ [t'])[vs.length] = t' := by simp
     have e2 : (s.ls ++ [st3.l])[vs.length] = st3.l := by rw [List.getElem_append_right (by omega)]; simp [hvl]
     simp only [e1,e2]
     exact own_lv r3.ol fun id hid => kq id (.inr (.inr hid))
   ·have old : KpO Q X6 X11 p vs id → ¬ ownZq d pbA q dv rs id ∧ id ≠ c ∧ sid (.slice (some ⟨h3.length + 1,0,none⟩) (vs.length + 1) 1) ≠ some id ∧ id < h5.length := fun hid => by
     obtain ⟨q1,q2,q3,q4⟩ := I.kp id hid
     refine ⟨fun x => ?_,q2,by simp [sid]; omega,by omega⟩
     rcases newE id x with y | y
     ·exact q1 y
     ·omega
    rcases hid with hid | hid | hid | hid | ⟨w,hw,hid⟩
    ·exact old (.inl hid)
    ·exact old (.inr (.inl hid))
    ·exact old (.inr (.inr (.inl hid)))
    ·exact old (.inr (.inr (.inr (.inl hid))))
    ·rcases List.mem_append.1 hw with hw | hw
     ·exact old (.inr (.inr (.inr (.inr ⟨w,hw,hid⟩))))
     ·simp at hw; subst hw
      have := r3.ol.lt hid
      refine ⟨fun x => (r3.d2 id x).2.1 hid,?_,by simp [sid]; omega,by omega⟩
      intro e
      exact r3.d3.2 (by rw [← e]; exact hid)
   ·have := r3.own_lt (.inl hid)
    exact ⟨(r3.d2 id hid).2.2,by simp [sid]; omega⟩
   ·simp [sid]; omega
   ·rw [keep id (.inl hid)]; exact I.low id hid
   ·rcases List.mem_append.1 hl with hl | hl
    ·exact I.small l hl
    ·simp at hl; subst hl; exact hlen3'
  have ih' := fun K0 K1 K2 K3 K5 K7 K8 K9 Ka Kc Kf Kh Kq Kr Ks Kt Ku Kv Kw Kx Ky Kz J0 J1 J2 J3 J4 J5 J6 J7 J8 J9 Ja Jb Jc Jd Je Jf Jg Jh Ji Jj Jk Jl Jm Jn Jo Jp Jq Jr Js Jt Ju Jv Jw Jx Jy Jz Y0 Y1 Y2 Y3 Y4 Y5 Y6 Y7 Y8 Y9 Ya Yb Yc Yd Ye Yf Yg Yh Yi Yj Yk Yl Ym Yn Yo Yp Yq Yr Ys Yt Yu Yv Yw Yx Yy Yz Z0 Z1 Z2 Z3 Z4 Z5 Z6 => ih (kk + 1) h5 pbA on rd' _ _ _ (N + st3.l.length) K0 K1 K2 K3 K5 K7 K8 K9 Ka Kc Kf Kh Kq Kr Ks Kt Ku Kv Kw Kx Ky Kz J0 J1 J2 J3 J4 J5 J6 J7 J8 J9 Ja Jb Jc Jd Je Jf Jg Jh Ji Jj Jk Jl Jm Jn Jo Jp Jq Jr Js Jt Ju Jv Jw Jx Jy Jz Y0 Y1 Y2 Y3 Y4 Y5 Y6 Y7 Y8 Y9 Ya Yb Yc Yd Ye Yf Yg Yh Yi Yj Yk Yl Ym Yn Yo Yp Yq Yr Ys Yt Yu Yv Yw Yx Yy Yz Z0 Z1 Z2 Z3 Z4 Z5 Z6 (by omega) I5 (by simp; omega) (by simp; omega) (fun i hi => by have := hrw (i + 1) (by omega); simpa [Nat.add_assoc,Nat.add_comm 1 i] using this) hlk' (by rw [← hF]; simp)
  have b62 : blk? h2 X6 = some ⟨false,[.int .i64 pl,pv,dv0]⟩ := by rw [keep2 X6 kk6.2.2.2 (hnE _ kk6.1)]; exact I.b6
  have b112 : blk? h2 X11 = some ⟨false,[.bool m.byp,.bool m.res,.bool m.rst,.bool m.cz,.bool m.sy]⟩ := by rw [keep2 X11 kk11.2.2.2 (hnE _ kk11.1)]; exact I.b11
  have b3k := r3.blk
  have b11 := I.b11
  obtain ⟨ta,tc,htl⟩ := r3.ol.sl.shape
  simp only at htl
  simp only [MD.val] at e3'
  have w1 : IntKind.i64.wrap ((s.ls.length : Int) + 1) = ((s.ls.length + 1 : Nat) : Int) := wrapN (n := s.ls.length + 1) (by omega)
  have w2 : IntKind.i64.wrap ((kk : Int) + 1) = ((kk + 1 : Nat) : Int) := wrapN (n := kk + 1) (by omega)
  simp only [List.length_append,List.length_singleton] at ih'
  rw [hvl] at hlv ih' a5
  rw [htl] at b3k hH4
  rw [hlv] at a5
  generalize ((s.ls.length + 1 : Nat) : Int) = n1 at *
  generalize ((kk + 1 : Nat) : Int) = k1 at *
  generalize hde : dErr (s.ls.length : Nat) pl o ok3 = de at *
  rw [ok_round,l31_0,L31_0a,show L31_0b = .seq (.block 3 (.seq (nthC 0 (inB (nthC 0 L31_0b))) (tlC 1 (inB (nthC 0 L31_0b))))) (tlC 1 L31_0b) from rfl]
  have done : ∀ K0 K1 K2 K3 K5 K7 K8 K9 Ka Kc Kf Kh Kq Kr Ks Kt Ku Kv Kw Kx Ky Kz J0 J1 J2 J3 J4 J5 J6 J7 J8 J9 Ja Jb Jc Jd Je Jf Jg Jh Ji Jj Jk Jl Jm Jn Jo Jp Jq Jr Js Jt Ju Jv Jw Jx Jy Jz Y0 Y1 Y2 Y3 Y4 Y5 Y6 Y7 Y8 Y9 Ya Yb Yc Yd Ye Yf Yg Yh Yi Yj Yk Yl Ym Yn Yo Yp Yq Yr Ys Yt Yu Yv Yw Yx Yy Yz Z0 Z1 Z2 Z3 Z4 Z5 Z6 : Value,Ok tab R31 (.code (tlC 1 (inB (nthC 0 L31_0b))) :: .inBlock 3 :: .code (tlC 1 L31_0b) :: .inLoop L31_0 :: .inBlock 2 :: k) #[K0,K1,K2,K3,.int .i64 o,K5,ptr X6,K7,K8,K9,Ka,ptr X11,Kc,lv,ptr p,Kf,ptr d,Kh,gv,.int .i64 (s.ls.length : Nat),v20,.int .i64 (gi : Nat),v22,.bool rw,ptr q,.int .i64 (kk : Nat),Kq,Kr,Ks,Kt,Ku,Kv,Kw,Kx,Ky,Kz,J0,J1,J2,J3,J4,J5,J6,J7,J8,J9,Ja,Jb,Jc,Jd,Je,Jf,Jg,Jh,Ji,Jj,Jk,Jl,Jm,Jn,Jo,Jp,Jq,Jr,Js,Jt,Ju,Jv,Jw,Jx,Jy,Jz,Y0,Y1,Y2,Y3,Y4,Y5,Y6,Y7,Y8,Y9,Ya,Yb,Yc,Yd,Ye,Yf,Yg,Yh,Yi,Yj,Yk,Yl,Ym,Yn,Yo,Yp,Yq,Yr,Ys,Yt,Yu,Yv,Yw,Yx,Yy,Yz,Z0,Z1,Z2,Z3,Z4,Z5,Z6] hA R := by
   intros
   rw [hlv]
   simp only [nthC,tlC,fstC,inB,L31_0b]
   simp [hB2,e3',b62,b112,b3k,repL,hH4,a5,w1,w2]
   exact ih' ..
  clear ih' ih
  generalize tlC 1 (inB (nthC 0 L31_0b)) = tl1 at *
  rw [egv,hlv] at done ⊢
  simp only [nthC,tlC,fstC,inB,L31_0b] at done ⊢
  cases hrst : m.rst with
  | false =>
   have hAh := nA (by rw [hrst]; simp)
   subst hAh
   rw [hrst] at b11
   simp [k_guard,hgb,hgc0,hlt,hkc,b11]
   exact done ..
  | true =>
   cases hw : rw with
   | true =>
    have hAh := nA (by rw [hw]; simp)
    subst hAh
    rw [hrst] at b11
    rw [hw] at done
    simp [k_guard,hgb,hgc0,hlt,hkc,b11]
    exact done ..
   | false =>
    have eR := eA hrst hw
    rw [hrst] at b11
    rw [hw] at done
    simp [k_guard,hgb,hgc0,hlt,hkc,b11,eR]
    exact done ..
end
structure ZO (Q : Nat → Prop) (hB h : Heap) (X6 X11 p c d : Nat) (pl : Int) (pv dv0 : Value) (m : MD) (lv : Value) (vs : List Value) (s : Rdg) : Prop where
 b6 : blk? h X6 = some ⟨false,[.int .i64 pl,pv,dv0]⟩
 b11 : blk? h X11 = some ⟨false,[.bool m.byp,.bool m.res,.bool m.rst,.bool m.cz,.bool m.sy]⟩
 cb : CB h false p c s.b
 good : s.b.Good
 zd : ∃ pb dv D on,ZD h d pb dv D on s.a (s.ls.length * 20000 + 4) ∧ ∀ id,ownE d pb dv id → ¬ KpO Q X6 X11 p vs id ∧ id ≠ c ∧ sid lv ≠ some id
 ol : OwnS h 1 lv vs.length vs
 vl : vs.length = s.ls.length
 each : ∀ i (h1 : i < vs.length) (h2 : i < s.ls.length),OwnS h 2 vs[i] s.ls[i].length (encS s.ls[i])
 kp : ∀ id,KpO Q X6 X11 p vs id → id ≠ c ∧ sid lv ≠ some id ∧ id < h.length
 nl : sid lv ≠ some c
 low : ∀ id,Q id → blk? h id = blk? hB id
 len : hB.length ≤ h.length
 small : ∀ l ∈ s.ls,l.length ≤ 20000
 cB : ¬ Q c ∧ c ≠ X6 ∧ c ≠ X11
theorem ZI.zo {Q : Nat → Prop} {hB h : Heap} {X6 X11 p c d pb q : Nat} {pl : Int} {pv dv0 : Value} {m : MD} {dv rs : Value} {D : List Nat} {on : Bool} {rd : List Nat × Nat} {lv : Value} {vs : List Value} {s : Rdg} {N : Nat}
  (I : ZI Q hB h X6 X11 p c d pb q pl pv dv0 m dv rs D on rd lv vs s N) (hN : N ≤ s.ls.length * 20000 + 4) : ZO Q hB h X6 X11 p c d pl pv dv0 m lv vs s :=
 ⟨I.b6,I.b11,I.cb,I.good,⟨pb,dv,D,on,I.zd.mono hN,fun id hid => ⟨fun x => (I.kp id x).1 (.inl hid),(I.no id (.inl hid)).1,(I.no id (.inl hid)).2⟩⟩,I.ol,I.vl,I.each,fun id hid => (I.kp id hid).2,I.nl,I.low,I.len,I.small,I.cB⟩
section
variable {R : RP} {h : Heap}
theorem zseg_loop {Q : Nat → Prop} {hB : Heap} {X6 X11 p c d : Nat} {pl o : Int} {pv dv0 gv : Value} {m : MD} {k : List RItem} {sF : Rdg} {gs : List Nat} {ps : List Int} {ds : List Nat}
  (hg : Sl hB 1 gv gs.length (nI gs)) (hgq : ∀ id,sid gv = some id → Q id) (hp : Rk .i64 hB pv ps) (hpq : ∀ id,sid pv = some id → Q id) (hd : Rk .u8 hB dv0 (ds.map Int.ofNat)) (hdq : ∀ id,sid dv0 = some id → Q id)
  (hc1 : ∀ x ∈ gs,1 ≤ x) (hps : ∀ x ∈ ps,0 ≤ x) (hz : ∀ i j,i ≤ j → j ≤ ps.length → zE ps i ≤ zE ps j ∧ zE ps j ≤ ds.length) (hdl : ds.length < 100000000) (hds : ∀ x ∈ ds,x < 256) (hpl : ps.length ≤ 178) (hgn : gs.length ≤ 178)
  (hk : ∀ (h : Heap) (lv : Value) (vs : List Value) (K0 K1 K2 K3 K4 K5 K6 K7 K8 K9 Ka Kb Kc Ke Kf Kg Kh Ki Kj Kk Kl Km Kn Ko Kp Kq Kr Ks Kt Ku Kv Kw Kx Ky Kz J0 J1 J2 J3 J4 J5 J6 J7 J8 J9 Ja Jb Jc Jd Je Jf Jg Jh Ji Jj Jk Jl Jm Jn Jo Jp Jq Jr Js Jt Ju Jv Jw Jx Jy Jz Y0 Y1 Y2 Y3 Y4 Y5 Y6 Y7 Y8 Y9 Ya Yb Yc Yd Ye Yf Yg Yh Yi Yj Yk Yl Ym Yn Yo Yp Yq Yr Ys Yt Yu Yv Yw Yx Yy Yz Z0 Z1 Z2 Z3 Z4 Z5 Z6 : Value),ZO Q hB h X6 X11 p c d pl pv dv0 m lv vs sF → Ok tab R31 k #[K0,K1,K2,K3,K4,K5,K6,K7,K8,K9,Ka,Kb,Kc,lv,Ke,Kf,Kg,Kh,Ki,Kj,Kk,Kl,Km,Kn,Ko,Kp,Kq,Kr,Ks,Kt,Ku,Kv,Kw,Kx,Ky,Kz,J0,J1,J2,J3,J4,J5,J6,J7,J8,J9,Ja,Jb,Jc,Jd,Je,Jf,Jg,Jh,Ji,Jj,Jk,Jl,Jm,Jn,Jo,Jp,Jq,Jr,Js,Jt,Ju,Jv,Jw,Jx,Jy,Jz,Y0,Y1,Y2,Y3,Y4,Y5,Y6,Y7,Y8,Y9,Ya,Yb,Yc,Yd,Ye,Yf,Yg,Yh,Yi,Yj,Yk,Yl,Ym,Yn,Yo,Yp,Yq,Yr,Ys,Yt,Yu,Yv,Yw,Yx,Yy,Yz,Z0,Z1,Z2,Z3,Z4,Z5,Z6] h R) :
  ∀ (j gi : Nat) (h : Heap) (lv : Value) (vs : List Value) (s : Rdg) (beg : Nat) (K0 K1 K2 K3 K5 K7 K8 K9 Ka Kc Kf Kh Km Kn Ko Kp Kq Kr Ks Kt Ku Kv Kw Kx Ky Kz J0 J1 J2 J3 J4 J5 J6 J7 J8 J9 Ja Jb Jc Jd Je Jf Jg Jh Ji Jj Jk Jl Jm Jn Jo Jp Jq Jr Js Jt Ju Jv Jw Jx Jy Jz Y0 Y1 Y2 Y3 Y4 Y5 Y6 Y7 Y8 Y9 Ya Yb Yc Yd Ye Yf Yg Yh Yi Yj Yk Yl Ym Yn Yo Yp Yq Yr Ys Yt Yu Yv Yw Yx Yy Yz Z0 Z1 Z2 Z3 Z4 Z5 Z6 : Value),gi + j = gs.length → ZO Q hB h X6 X11 p c d pl pv dv0 m lv vs s → s.ls.length + sumL (gs.drop gi) ≤ ps.length → beg = zE ps s.ls.length → SegAll m s.ls.length (gs.drop gi) →
   segsR m pl o ps ds (gs.drop gi) beg s = sF →
   Ok tab R31 (.inLoop L31_1 :: .inBlock 0 :: k) #[K0,K1,K2,K3,.int .i64 o,K5,ptr X6,K7,K8,K9,Ka,ptr X11,Kc,lv,ptr p,Kf,ptr d,Kh,gv,.int .i64 (s.ls.length : Nat),.int .i64 (beg : Nat),.int .i64 (gi : Nat),Km,Kn,Ko,Kp,Kq,Kr,Ks,Kt,Ku,Kv,Kw,Kx,Ky,Kz,J0,J1,J2,J3,J4,J5,J6,J7,J8,J9,Ja,Jb,Jc,Jd,Je,Jf,Jg,Jh,Ji,Jj,Jk,Jl,Jm,Jn,Jo,Jp,Jq,Jr,Js,Jt,Ju,Jv,Jw,Jx,Jy,Jz,Y0,Y1,Y2,Y3,Y4,Y5,Y6,Y7,Y8,Y9,Ya,Yb,Yc,Yd,Ye,Yf,Yg,Yh,Yi,Yj,Yk,Yl,Ym,Yn,Yo,Yp,Yq,Yr,Ys,Yt,Yu,Yv,Yw,Yx,Yy,Yz,Z0,Z1,Z2,Z3,Z4,Z5,Z6] h R := by
 intro j
 induction j with
 | zero =>
  intro gi h lv vs s beg K0 K1 K2 K3 K5 K7 K8 K9 Ka Kc Kf Kh Km Kn Ko Kp Kq Kr Ks Kt Ku Kv Kw Kx Ky Kz J0 J1 J2 J3 J4 J5 J6 J7 J8 J9 Ja Jb Jc Jd Je Jf Jg Jh Ji Jj Jk Jl Jm Jn Jo Jp Jq Jr Js Jt Ju Jv Jw Jx Jy Jz Y0 Y1 Y2 Y3 Y4 Y5 Y6 Y7 Y8 Y9 Ya Yb Yc Yd Ye Yf Yg Yh Yi Yj Yk Yl Ym Yn Yo Yp Yq Yr Ys Yt Yu Yv Yw Yx Yy Yz Z0 Z1 Z2 Z3 Z4 Z5 Z6 hgi I hn hbeg hsg hF
  obtain rfl : gi = gs.length := by omega
  rw [List.drop_length] at hF
  simp only [segsR] at hF
  subst hF
  have hk' := fun K0 K1 K2 K3 K4 K5 K6 K7 K8 K9 Ka Kb Kc Ke Kf Kg Kh Ki Kj Kk Kl Km Kn Ko Kp Kq Kr Ks Kt Ku Kv Kw Kx Ky Kz J0 J1 J2 J3 J4 J5 J6 J7 J8 J9 Ja Jb Jc Jd Je Jf Jg Jh Ji Jj Jk Jl Jm Jn Jo Jp Jq Jr Js Jt Ju Jv Jw Jx Jy Jz Y0 Y1 Y2 Y3 Y4 Y5 Y6 Y7 Y8 Y9 Ya Yb Yc Yd Ye Yf Yg Yh Yi Yj Yk Yl Ym Yn Yo Yp Yq Yr Ys Yt Yu Yv Yw Yx Yy Yz Z0 Z1 Z2 Z3 Z4 Z5 Z6 => hk h lv vs K0 K1 K2 K3 K4 K5 K6 K7 K8 K9 Ka Kb Kc Ke Kf Kg Kh Ki Kj Kk Kl Km Kn Ko Kp Kq Kr Ks Kt Ku Kv Kw Kx Ky Kz J0 J1 J2 J3 J4 J5 J6 J7 J8 J9 Ja Jb Jc Jd Je Jf Jg Jh Ji Jj Jk Jl Jm Jn Jo Jp Jq Jr Js Jt Ju Jv Jw Jx Jy Jz Y0 Y1 Y2 Y3 Y4 Y5 Y6 Y7 Y8 Y9 Ya Yb Yc Yd Ye Yf Yg Yh Yi Yj Yk Yl Ym Yn Yo Yp Yq Yr Ys Yt Yu Yv Yw Yx Yy Yz Z0 Z1 Z2 Z3 Z4 Z5 Z6 I
  have hg2 : Sl h 1 gv gs.length (nI gs) := hg.of_sid fun id b hid hb => by rw [I.low id (hgq id hid)]; exact hb
  obtain ⟨ga,gc,egv⟩ := hg2.shape
  rw [egv]
  rw [ok_round,l31_1,L31_1a,L31_1b]
  simp
  exact hk' ..
 | succ j ih =>
  intro gi h lv vs s beg K0 K1 K2 K3 K5 K7 K8 K9 Ka Kc Kf Kh Km Kn Ko Kp Kq Kr Ks Kt Ku Kv Kw Kx Ky Kz J0 J1 J2 J3 J4 J5 J6 J7 J8 J9 Ja Jb Jc Jd Je Jf Jg Jh Ji Jj Jk Jl Jm Jn Jo Jp Jq Jr Js Jt Ju Jv Jw Jx Jy Jz Y0 Y1 Y2 Y3 Y4 Y5 Y6 Y7 Y8 Y9 Ya Yb Yc Yd Ye Yf Yg Yh Yi Yj Yk Yl Ym Yn Yo Yp Yq Yr Ys Yt Yu Yv Yw Yx Yy Yz Z0 Z1 Z2 Z3 Z4 Z5 Z6 hgi I hn hbeg hsg hF
  have hgl : gi < gs.length := by omega
  have hlt : (gi : Int) < (gs.length : Int) := by omega
  have hdrop : gs.drop gi = gs[gi] :: gs.drop (gi + 1) := List.drop_eq_getElem_cons hgl
  have hcp := hc1 gs[gi] (List.getElem_mem hgl)
  rw [hdrop] at hF hn hsg
  simp only [sumL] at hn
  simp only [segsR] at hF
  simp only [SegAll] at hsg
  obtain ⟨hall,hsg2⟩ := hsg
  have hg2 : Sl h 1 gv gs.length (nI gs) := hg.of_sid fun id b hid hb => by rw [I.low id (hgq id hid)]; exact hb
  have rk : ∀ {G : Heap} {kd : IntKind} {w : Value} {xs : List Int},Rk kd hB w xs → (∀ id,sid w = some id → Q id) → (∀ id,Q id → blk? G id = blk? hB id) → hB.length ≤ G.length → Rk kd G w xs := fun r hq hl hle => r.keep hle fun id _ hs => hl id (hq id hs)
  have hp2 := rk hp hpq I.low I.len
  obtain ⟨gid,goff,gb,egv,hgb,hgc⟩ := hg2.get hgl
  have hgd0 : gs.getD gi 0 = gs[gi] := by rw [List.getD_eq_getElem?_getD,List.getElem?_eq_getElem hgl]; rfl
  have hgc0 := hgc 0 (by omega)
  rw [Nat.mul_one,Nat.add_zero,Nat.add_zero,nI_get hgl,hgd0] at hgc0
  generalize hcc : gs[gi] = cnt at *
  have hni : s.ls.length + cnt - 1 < ps.length := by omega
  obtain ⟨pid,poff,pbk,epv,hpb,hpc⟩ := hp2.get hni
  have hpe : ps.getD (s.ls.length + cnt - 1) 0 = ps[s.ls.length + cnt - 1] := by rw [List.getD_eq_getElem?_getD,List.getElem?_eq_getElem hni]; rfl
  have hp0 := hps ps[s.ls.length + cnt - 1] (List.getElem_mem hni)
  obtain ⟨e,he⟩ := Int.eq_ofNat_of_zero_le hp0
  have hze : zE ps (s.ls.length + cnt) = e := by unfold zE; rw [if_neg (by omega),hpe,he]; rfl
  obtain ⟨z1,z2⟩ := hz s.ls.length (s.ls.length + cnt) (by omega) (by omega)
  rw [hze,← hbeg] at z1
  rw [hze] at z2
  rw [hpe,he,Int.toNat_natCast] at hF
  rw [he] at hpc
  have hvl := I.vl
  obtain ⟨la,lc,hlv⟩ := I.ol.sl.shape
  obtain ⟨pb,dv,D0,on,Z0,iS⟩ := I.zd
  have kk6 := I.kp X6 (.inr (.inl rfl))
  have kk11 := I.kp X11 (.inr (.inr (.inl rfl)))
  have kkp := I.kp p (.inr (.inr (.inr (.inl rfl))))
  have hcl := blk?_lt I.cb.blkc
  have lvlt : ∀ id,sid lv = some id → id < h.length := fun id hid => I.ol.lt hid
  have hDd : Dig (segD ds beg e) := fun x hx => hds x (List.mem_of_mem_take (List.mem_of_mem_drop hx))
  have hDl : (segD ds beg e).length < 100000000 := by unfold segD; rw [List.length_drop,List.length_take]; omega
  have own_lt : ∀ id,ownE d pb dv id → id < h.length := fun id hid => Z0.lt hid
  have hd1 := rk hd hdq I.low I.len
  obtain ⟨sv,es,hsl⟩ := seg_sl hd1 z1 z2
  obtain ⟨h1,q',svv,eN,J,kx,lx,fo⟩ := znewReader_c hsl hDd hDl
  have hraw := fun H R => raw_r (h := H) (R := R) (n := s.ls.length) (by omega) m
  simp only [MD.val] at hraw
  have w1 : IntKind.i64.wrap ((s.ls.length : Int) + (cnt : Int)) = ((s.ls.length + cnt : Nat) : Int) := by rw [wrapI (by omega) (by omega)]; omega
  have w2 : IntKind.i64.wrap (((s.ls.length + cnt : Nat) : Int) - 1) = ((s.ls.length + cnt - 1 : Nat) : Int) := by rw [wrapI (by omega) (by omega)]; omega
  have w3 : IntKind.i64.wrap ((gi : Int) + 1) = ((gi + 1 : Nat) : Int) := wrapN (n := gi + 1) (by omega)
  have hi1 : ((s.ls.length + cnt - 1 : Nat) : Int) < (ps.length : Int) := by omega
  have hi0 : (0 : Int) ≤ ((s.ls.length + cnt - 1 : Nat) : Int) := by omega
  have hit : (((s.ls.length + cnt - 1 : Nat) : Int)).toNat = s.ls.length + cnt - 1 := Int.toNat_natCast _
  have mkZI : ∀ (h2 : Heap) (dv' : Value) (D : List Nat) (on' : Bool) (s1 : Rdg),s1.b = s.b → s1.ls = s.ls → (∀ id,id < h.length → ¬ ownE d pb dv id → blk? h2 id = blk? h id) → ZD h2 d pb dv' D on' s1.a (s.ls.length * 20000 + 4) → RB h2 q' svv (segD ds beg e) 0 →
    (∀ id,ownE d pb dv' id → (ownE d pb dv id ∨ h.length ≤ id) ∧ ¬ ownR q' svv id) → h.length ≤ h2.length → ZI Q hB h2 X6 X11 p c d pb q' pl pv dv0 m dv' svv D on' (segD ds beg e,0) lv vs s1 (s.ls.length * 20000 + 4) := by
   intro h2 dv' D on' s1 eb el kK Z J2 hf l2
   have kO : ∀ id,KpO Q X6 X11 p vs id → blk? h2 id = blk? h id := fun id hid => kK id (I.kp id hid).2.2 (fun x => (iS id x).1 hid)
   have newZ : ∀ id,ownZq d pb q' dv' svv id → ownE d pb dv id ∨ h.length ≤ id := fun id hid => hid.elim (fun x => (hf id x).1) fun x => .inr (fo id x)
   refine ⟨by rw [kO X6 (.inr (.inl rfl))]; exact I.b6,by rw [kO X11 (.inr (.inr (.inl rfl)))]; exact I.b11,⟨by rw [eb,kO p (.inr (.inr (.inr (.inl rfl))))]; exact I.cb.blkp,by rw [eb,kK c hcl (fun x => (iS c x).2.1 rfl)]; exact I.cb.blkc,by rw [eb]; exact I.cb.ok⟩,by rw [eb]; exact I.good,Z,J2,by simp,fun id hid => (hf id hid).2,
    own_lv I.ol fun id hid => kK id (lvlt id hid) (fun x => (iS id x).2.2 hid),by rw [el]; exact I.vl,fun i h1 h2 => ?_,fun id hid => ?_,fun id hid => ?_,I.nl,fun id hid => by rw [kO id (.inl hid)]; exact I.low id hid,by have := I.len; omega,by rw [el]; exact I.small,I.cB⟩
   ·have e2 : s1.ls[i] = s.ls[i]'(by rw [← el]; exact h2) := by simp only [el]
    rw [e2]
    exact own_lv (I.each i h1 (by rw [← el]; exact h2)) fun id hid => kO id (.inr (.inr (.inr (.inr ⟨_,List.getElem_mem h1,hid⟩))))
   ·obtain ⟨q1,q2,q3⟩ := I.kp id hid
    exact ⟨fun x => (newZ id x).elim (fun y => (iS id y).1 hid) (fun y => by omega),q1,q2,by omega⟩
   ·rcases newZ id hid with y | y
    ·exact (iS id y).2
    ·exact ⟨by omega,fun x => by have := lvlt _ x; omega⟩
  have hb62 := I.b6
  have hb112 := I.b11
  have e6 : blk? h1 X6 = some ⟨false,[.int .i64 pl,pv,dv0]⟩ := by rw [kx X6 kk6.2.2]; exact I.b6
  have behind : ∀ (h9 : Heap) (lv9 : Value) (vs9 : List Value) (s9 : Rdg) (K0 K1 K2 K3 K5 K7 K8 K9 Ka Kc Kf Kh Kn Ko Kp Kq Kr Ks Kt Ku Kv Kw Kx Ky Kz J0 J1 J2 J3 J4 J5 J6 J7 J8 J9 Ja Jb Jc Jd Je Jf Jg Jh Ji Jj Jk Jl Jm Jn Jo Jp Jq Jr Js Jt Ju Jv Jw Jx Jy Jz Y0 Y1 Y2 Y3 Y4 Y5 Y6 Y7 Y8 Y9 Ya Yb Yc Yd Ye Yf Yg Yh Yi Yj Yk Yl Ym Yn Yo Yp Yq Yr Ys Yt Yu Yv Yw Yx Yy Yz Z0 Z1 Z2 Z3 Z4 Z5 Z6 : Value),ZO Q hB h9 X6 X11 p c d pl pv dv0 m lv9 vs9 s9 → s9.ls.length = s.ls.length + cnt → segsR m pl o ps ds (gs.drop (gi + 1)) e s9 = sF →
    Ok tab R31 (.code (tlC 5 (inB (nthC 0 L31_1b))) :: .inBlock 1 :: .code (tlC 1 L31_1b) :: .inLoop L31_1 :: .inBlock 0 :: k) #[K0,K1,K2,K3,.int .i64 o,K5,ptr X6,K7,K8,K9,Ka,ptr X11,Kc,lv9,ptr p,Kf,ptr d,Kh,gv,.int .i64 (s9.ls.length : Nat),.int .i64 (beg : Nat),.int .i64 (gi : Nat),.int .i64 (e : Nat),Kn,Ko,Kp,Kq,Kr,Ks,Kt,Ku,Kv,Kw,Kx,Ky,Kz,J0,J1,J2,J3,J4,J5,J6,J7,J8,J9,Ja,Jb,Jc,Jd,Je,Jf,Jg,Jh,Ji,Jj,Jk,Jl,Jm,Jn,Jo,Jp,Jq,Jr,Js,Jt,Ju,Jv,Jw,Jx,Jy,Jz,Y0,Y1,Y2,Y3,Y4,Y5,Y6,Y7,Y8,Y9,Ya,Yb,Yc,Yd,Ye,Yf,Yg,Yh,Yi,Yj,Yk,Yl,Ym,Yn,Yo,Yp,Yq,Yr,Ys,Yt,Yu,Yv,Yw,Yx,Yy,Yz,Z0,Z1,Z2,Z3,Z4,Z5,Z6] h9 R := by
   intro h9 lv9 vs9 s9 K0 K1 K2 K3 K5 K7 K8 K9 Ka Kc Kf Kh Kn Ko Kp Kq Kr Ks Kt Ku Kv Kw Kx Ky Kz J0 J1 J2 J3 J4 J5 J6 J7 J8 J9 Ja Jb Jc Jd Je Jf Jg Jh Ji Jj Jk Jl Jm Jn Jo Jp Jq Jr Js Jt Ju Jv Jw Jx Jy Jz Y0 Y1 Y2 Y3 Y4 Y5 Y6 Y7 Y8 Y9 Ya Yb Yc Yd Ye Yf Yg Yh Yi Yj Yk Yl Ym Yn Yo Yp Yq Yr Ys Yt Yu Yv Yw Yx Yy Yz Z0 Z1 Z2 Z3 Z4 Z5 Z6 I9 hl9 hF9
   have ih' := fun K0 K1 K2 K3 K5 K7 K8 K9 Ka Kc Kf Kh Km Kn Ko Kp Kq Kr Ks Kt Ku Kv Kw Kx Ky Kz J0 J1 J2 J3 J4 J5 J6 J7 J8 J9 Ja Jb Jc Jd Je Jf Jg Jh Ji Jj Jk Jl Jm Jn Jo Jp Jq Jr Js Jt Ju Jv Jw Jx Jy Jz Y0 Y1 Y2 Y3 Y4 Y5 Y6 Y7 Y8 Y9 Ya Yb Yc Yd Ye Yf Yg Yh Yi Yj Yk Yl Ym Yn Yo Yp Yq Yr Ys Yt Yu Yv Yw Yx Yy Yz Z0 Z1 Z2 Z3 Z4 Z5 Z6 => ih (gi + 1) h9 lv9 vs9 s9 e K0 K1 K2 K3 K5 K7 K8 K9 Ka Kc Kf Kh Km Kn Ko Kp Kq Kr Ks Kt Ku Kv Kw Kx Ky Kz J0 J1 J2 J3 J4 J5 J6 J7 J8 J9 Ja Jb Jc Jd Je Jf Jg Jh Ji Jj Jk Jl Jm Jn Jo Jp Jq Jr Js Jt Ju Jv Jw Jx Jy Jz Y0 Y1 Y2 Y3 Y4 Y5 Y6 Y7 Y8 Y9 Ya Yb Yc Yd Ye Yf Yg Yh Yi Yj Yk Yl Ym Yn Yo Yp Yq Yr Ys Yt Yu Yv Yw Yx Yy Yz Z0 Z1 Z2 Z3 Z4 Z5 Z6 (by omega) I9 (by omega) (by rw [hl9,hze]) (by rw [hl9]; exact hsg2) hF9
   generalize ((gi + 1 : Nat) : Int) = gi1 at *
   simp only [nthC,tlC,fstC,inB,L31_1b]
   simp [w3]
   exact ih' ..
  have go : ∀ (h2 : Heap) (dv' : Value) (D : List Nat) (on' : Bool) (s1 : Rdg) (K0 K1 K2 K3 K5 K7 K8 K9 Ka Kc Kf Kh Kq Kr Ks Kt Ku Kv Kw Kx Ky Kz J0 J1 J2 J3 J4 J5 J6 J7 J8 J9 Ja Jb Jc Jd Je Jf Jg Jh Ji Jj Jk Jl Jm Jn Jo Jp Jq Jr Js Jt Ju Jv Jw Jx Jy Jz Y0 Y1 Y2 Y3 Y4 Y5 Y6 Y7 Y8 Y9 Ya Yb Yc Yd Ye Yf Yg Yh Yi Yj Yk Yl Ym Yn Yo Yp Yq Yr Ys Yt Yu Yv Yw Yx Yy Yz Z0 Z1 Z2 Z3 Z4 Z5 Z6 : Value),ZI Q hB h2 X6 X11 p c d pb q' pl pv dv0 m dv' svv D on' (segD ds beg e,0) lv vs s1 (s.ls.length * 20000 + 4) → s1.ls = s.ls → ((rawOf m s.ls.length = false → on' = true ∧ s1.raw = none) ∧ (rawOf m s.ls.length = true → s1.raw = some (segD ds beg e,0))) → segsR m pl o ps ds (gs.drop (gi + 1)) e (passesR m pl o cnt s.ls.length s1) = sF →
    Ok tab R31 (.inLoop L31_0 :: .inBlock 2 :: .code (tlC 5 (inB (nthC 0 L31_1b))) :: .inBlock 1 :: .code (tlC 1 L31_1b) :: .inLoop L31_1 :: .inBlock 0 :: k) #[K0,K1,K2,K3,.int .i64 o,K5,ptr X6,K7,K8,K9,Ka,ptr X11,Kc,lv,ptr p,Kf,ptr d,Kh,gv,.int .i64 (s.ls.length : Nat),.int .i64 (beg : Nat),.int .i64 (gi : Nat),.int .i64 (e : Nat),.bool (rawOf m s.ls.length),ptr q',.int .i64 0,Kq,Kr,Ks,Kt,Ku,Kv,Kw,Kx,Ky,Kz,J0,J1,J2,J3,J4,J5,J6,J7,J8,J9,Ja,Jb,Jc,Jd,Je,Jf,Jg,Jh,Ji,Jj,Jk,Jl,Jm,Jn,Jo,Jp,Jq,Jr,Js,Jt,Ju,Jv,Jw,Jx,Jy,Jz,Y0,Y1,Y2,Y3,Y4,Y5,Y6,Y7,Y8,Y9,Ya,Yb,Yc,Yd,Ye,Yf,Yg,Yh,Yi,Yj,Yk,Yl,Ym,Yn,Yo,Yp,Yq,Yr,Ys,Yt,Yu,Yv,Yw,Yx,Yy,Yz,Z0,Z1,Z2,Z3,Z4,Z5,Z6] h2 R := by
   intro h2 dv' D on' s1 K0 K1 K2 K3 K5 K7 K8 K9 Ka Kc Kf Kh Kq Kr Ks Kt Ku Kv Kw Kx Ky Kz J0 J1 J2 J3 J4 J5 J6 J7 J8 J9 Ja Jb Jc Jd Je Jf Jg Jh Ji Jj Jk Jl Jm Jn Jo Jp Jq Jr Js Jt Ju Jv Jw Jx Jy Jz Y0 Y1 Y2 Y3 Y4 Y5 Y6 Y7 Y8 Y9 Ya Yb Yc Yd Ye Yf Yg Yh Yi Yj Yk Yl Ym Yn Yo Yp Yq Yr Ys Yt Yu Yv Yw Yx Yy Yz Z0 Z1 Z2 Z3 Z4 Z5 Z6 I2 el hlk hF2
   have hPL := fun K0 K1 K2 K3 K5 K7 K8 K9 Ka Kc Kf Kh Kq Kr Ks Kt Ku Kv Kw Kx Ky Kz J0 J1 J2 J3 J4 J5 J6 J7 J8 J9 Ja Jb Jc Jd Je Jf Jg Jh Ji Jj Jk Jl Jm Jn Jo Jp Jq Jr Js Jt Ju Jv Jw Jx Jy Jz Y0 Y1 Y2 Y3 Y4 Y5 Y6 Y7 Y8 Y9 Ya Yb Yc Yd Ye Yf Yg Yh Yi Yj Yk Yl Ym Yn Yo Yp Yq Yr Ys Yt Yu Yv Yw Yx Yy Yz Z0 Z1 Z2 Z3 Z4 Z5 Z6 => zpass_loop (k := .code (tlC 5 (inB (nthC 0 L31_1b))) :: .inBlock 1 :: .code (tlC 1 L31_1b) :: .inLoop L31_1 :: .inBlock 0 :: k) (o := o) (v20 := .int .i64 (beg : Nat)) (v22 := .int .i64 (e : Nat)) (rw := rawOf m s.ls.length) (sF := passesR m pl o cnt s1.ls.length s1) (R := R) (hB := hB) (X6 := X6) (X11 := X11) (p := p) (c := c) (d := d) (q := q') (pl := pl) (pv := pv) (dv0 := dv0) (dv := dv') (rs := svv) (D := D) (m := m) hg hgq hgl hcc (by omega)
    (fun h9 pb9 on9 rd9 lv9 vs9 N9 K0 K1 K2 K3 K5 K7 K8 K9 Ka Kc Kf Kh Kn Ko Kp Kq Kr Ks Kt Ku Kv Kw Kx Ky Kz J0 J1 J2 J3 J4 J5 J6 J7 J8 J9 Ja Jb Jc Jd Je Jf Jg Jh Ji Jj Jk Jl Jm Jn Jo Jp Jq Jr Js Jt Ju Jv Jw Jx Jy Jz Y0 Y1 Y2 Y3 Y4 Y5 Y6 Y7 Y8 Y9 Ya Yb Yc Yd Ye Yf Yg Yh Yi Yj Yk Yl Ym Yn Yo Yp Yq Yr Ys Yt Yu Yv Yw Yx Yy Yz Z0 Z1 Z2 Z3 Z4 Z5 Z6 I9 hN9 => behind h9 lv9 vs9 _ _ _ _ _ _ _ _ _ _ _ _ _ _ _ _ _ _ _ _ _ _ _ _ _ _ _ _ _ _ _ _ _ _ _ _ _ _ _ _ _ _ _ _ _ _ _ _ _ _ _ _ _ _ _ _ _ _ _ _ _ _ _ _ _ _ _ _ _ _ _ _ _ _ _ _ _ _ _ _ _ _ _ _ _ _ _ _ _ _ _ _ _ _ _ _ _ _ _ _ _ _ _ _ _ (I9.zo hN9) (by rw [passesR_len,el]) (by rw [el]; exact hF2))
    cnt 0 h2 pb on' _ lv vs s1 _ K0 K1 K2 K3 K5 K7 K8 K9 Ka Kc Kf Kh Kq Kr Ks Kt Ku Kv Kw Kx Ky Kz J0 J1 J2 J3 J4 J5 J6 J7 J8 J9 Ja Jb Jc Jd Je Jf Jg Jh Ji Jj Jk Jl Jm Jn Jo Jp Jq Jr Js Jt Ju Jv Jw Jx Jy Jz Y0 Y1 Y2 Y3 Y4 Y5 Y6 Y7 Y8 Y9 Ya Yb Yc Yd Ye Yf Yg Yh Yi Yj Yk Yl Ym Yn Yo Yp Yq Yr Ys Yt Yu Yv Yw Yx Yy Yz Z0 Z1 Z2 Z3 Z4 Z5 Z6 (by omega) I2 (by rw [el]; omega) (by rw [el]; omega) (fun i hi => by rw [el]; exact hall i hi) hlk rfl
   rw [el] at hPL
   exact hPL ..
  clear ih behind
  rw [hvl] at hlv
  rw [epv] at e6 hb62
  generalize hnc : ((s.ls.length + cnt : Nat) : Int) = nc at *
  generalize hnc1 : ((s.ls.length + cnt - 1 : Nat) : Int) = nc1 at *
  cases hrw : rawOf m s.ls.length with
  | true =>
   rw [hrw] at hF hraw go
   simp only [if_true] at hF
   have I2 := mkZI h1 dv D0 on { s with raw := some (segD ds beg e,0) } rfl rfl (fun id h3 _ => kx id h3) (Z0.keep fun id hid => kx id (own_lt id hid)) J
    (fun id hid => ⟨.inl hid,fun x => by have := own_lt id hid; have := fo id x; omega⟩) lx
   have go' := fun K0 K1 K2 K3 K5 K7 K8 K9 Ka Kc Kf Kh Kq Kr Ks Kt Ku Kv Kw Kx Ky Kz J0 J1 J2 J3 J4 J5 J6 J7 J8 J9 Ja Jb Jc Jd Je Jf Jg Jh Ji Jj Jk Jl Jm Jn Jo Jp Jq Jr Js Jt Ju Jv Jw Jx Jy Jz Y0 Y1 Y2 Y3 Y4 Y5 Y6 Y7 Y8 Y9 Ya Yb Yc Yd Ye Yf Yg Yh Yi Yj Yk Yl Ym Yn Yo Yp Yq Yr Ys Yt Yu Yv Yw Yx Yy Yz Z0 Z1 Z2 Z3 Z4 Z5 Z6 => go _ _ _ _ _ K0 K1 K2 K3 K5 K7 K8 K9 Ka Kc Kf Kh Kq Kr Ks Kt Ku Kv Kw Kx Ky Kz J0 J1 J2 J3 J4 J5 J6 J7 J8 J9 Ja Jb Jc Jd Je Jf Jg Jh Ji Jj Jk Jl Jm Jn Jo Jp Jq Jr Js Jt Ju Jv Jw Jx Jy Jz Y0 Y1 Y2 Y3 Y4 Y5 Y6 Y7 Y8 Y9 Ya Yb Yc Yd Ye Yf Yg Yh Yi Yj Yk Yl Ym Yn Yo Yp Yq Yr Ys Yt Yu Yv Yw Yx Yy Yz Z0 Z1 Z2 Z3 Z4 Z5 Z6 I2 rfl ⟨fun x => (by cases x),fun _ => rfl⟩ hF
   clear go
   rw [egv] at go' ⊢
   rw [hlv] at go' ⊢
   rw [ok_round,l31_1,L31_1a,show L31_1b = .seq (.block 1 (.seq (nthC 0 (inB (nthC 0 L31_1b))) (.seq (nthC 1 (inB (nthC 0 L31_1b))) (.seq (nthC 2 (inB (nthC 0 L31_1b))) (.seq (nthC 3 (inB (nthC 0 L31_1b))) (.seq (nthC 4 (inB (nthC 0 L31_1b))) (tlC 5 (inB (nthC 0 L31_1b))))))))) (tlC 1 L31_1b) from rfl]
   generalize tlC 5 (inB (nthC 0 L31_1b)) = tl5 at *
   generalize tlC 1 L31_1b = tl1 at *
   simp only [nthC,tlC,fstC,inB,L31_1b]
   simp [hlt,hgb,hgc0,hb62,w1,w2,hi1,hi0,hit,hpb,hpc,hb112,hraw,e6,es,eN]
   exact go' ..
  | false =>
   rw [hrw] at hF hraw go
   simp only [Bool.false_eq_true,if_false] at hF
   obtain ⟨n0,st0,iD0⟩ := Z0.dp
   have iD1 : DP h1 d pb dv D0 n0 s.a.p s.a.value s.a.size st0 := iD0.keep fun id hid => kx id (own_lt id hid)
   have hsl1 : Sl h1 1 sv (segD ds beg e).length (nU (segD ds beg e)) := hsl.of_sid fun id b hid hb => by rw [kx id (blk?_lt hb)]; exact hb
   obtain ⟨h2,dv',eS,Ix,Fx⟩ := zstart_c iD1 (by have := Z0.h19; omega) hsl1 hDd hDl
   have lx2 := Fx.len
   have kx2 : ∀ id,id < h1.length → ¬ ownE d pb dv id → blk? h2 id = blk? h1 id := fun id h3 h4 => Fx.same id h3 (fun y => h4 (.inl y)) (fun y => h4 (.inr (.inl y))) (fun y => h4 (.inr (.inr y)))
   have frE : ∀ id,ownE d pb dv' id → ownE d pb dv id ∨ h1.length ≤ id := fun id hid => by
    rcases hid with hid | hid | hid
    ·exact .inl (.inl hid)
    ·exact .inl (.inr (.inl hid))
    ·rcases Fx.fresh id hid with y | y
     ·exact .inl (.inr (.inr y))
     ·exact .inr y.1
   have I2 := mkZI h2 dv' (segD ds beg e) true { s with a := AD.start s.a.p (segD ds beg e),raw := none } rfl rfl
    (fun id h3 h4 => by rw [kx2 id (by omega) h4,kx id h3])
    ⟨⟨4,by omega,.inl ⟨rfl,⟨Ix,rfl,AD.start_ok Z0.ps hDd,by simp only [AD.start]; have := Z0.h19; omega⟩⟩⟩,Z0.h19,Z0.ps,hDd,hDl⟩
    (J.keep fun id hid => kx2 id (J.own_lt hid) (fun y => by have := own_lt id y; have := fo id hid; omega))
    (fun id hid => ⟨(frE id hid).imp_right (by omega),fun x => by
     have h5 := fo id x
     have h6 := J.own_lt x
     rcases frE id hid with y | y
     ·have := own_lt id y; omega
     ·omega⟩) (by omega)
   have go' := fun K0 K1 K2 K3 K5 K7 K8 K9 Ka Kc Kf Kh Kq Kr Ks Kt Ku Kv Kw Kx Ky Kz J0 J1 J2 J3 J4 J5 J6 J7 J8 J9 Ja Jb Jc Jd Je Jf Jg Jh Ji Jj Jk Jl Jm Jn Jo Jp Jq Jr Js Jt Ju Jv Jw Jx Jy Jz Y0 Y1 Y2 Y3 Y4 Y5 Y6 Y7 Y8 Y9 Ya Yb Yc Yd Ye Yf Yg Yh Yi Yj Yk Yl Ym Yn Yo Yp Yq Yr Ys Yt Yu Yv Yw Yx Yy Yz Z0 Z1 Z2 Z3 Z4 Z5 Z6 => go _ _ _ _ _ K0 K1 K2 K3 K5 K7 K8 K9 Ka Kc Kf Kh Kq Kr Ks Kt Ku Kv Kw Kx Ky Kz J0 J1 J2 J3 J4 J5 J6 J7 J8 J9 Ja Jb Jc Jd Je Jf Jg Jh Ji Jj Jk Jl Jm Jn Jo Jp Jq Jr Js Jt Ju Jv Jw Jx Jy Jz Y0 Y1 Y2 Y3 Y4 Y5 Y6 Y7 Y8 Y9 Ya Yb Yc Yd Ye Yf Yg Yh Yi Yj Yk Yl Ym Yn Yo Yp Yq Yr Ys Yt Yu Yv Yw Yx Yy Yz Z0 Z1 Z2 Z3 Z4 Z5 Z6 I2 rfl ⟨fun _ => ⟨rfl,rfl⟩,fun x => (by cases x)⟩ hF
   clear go
   rw [egv] at go' ⊢
   rw [hlv] at go' ⊢
   rw [ok_round,l31_1,L31_1a,show L31_1b = .seq (.block 1 (.seq (nthC 0 (inB (nthC 0 L31_1b))) (.seq (nthC 1 (inB (nthC 0 L31_1b))) (.seq (nthC 2 (inB (nthC 0 L31_1b))) (.seq (nthC 3 (inB (nthC 0 L31_1b))) (.seq (nthC 4 (inB (nthC 0 L31_1b))) (tlC 5 (inB (nthC 0 L31_1b))))))))) (tlC 1 L31_1b) from rfl]
   generalize tlC 5 (inB (nthC 0 L31_1b)) = tl5 at *
   generalize tlC 1 L31_1b = tl1 at *
   simp only [nthC,tlC,fstC,inB,L31_1b]
   simp [hlt,hgb,hgc0,hb62,w1,w2,hi1,hi0,hit,hpb,hpc,hb112,hraw,e6,es,eN,eS]
   exact go' ..
theorem zsyms_c {pv dv0 : Value} {pl o : Int} {ps : List Int} {ds : List Nat} {n w hh : Nat} (m : MD) (hp : Rk .i64 h pv ps) (hd : Rk .u8 h dv0 (ds.map Int.ofNat)) (hps : ∀ x ∈ ps,0 ≤ x) (hz : ∀ i j,i ≤ j → j ≤ ps.length → zE ps i ≤ zE ps j ∧ zE ps j ≤ ds.length)
  (hdl : ds.length < 100000000) (hds : ∀ x ∈ ds,x < 256) (hpl : ps.length ≤ 178) (hn : n ≤ ps.length) (w1 : 1 ≤ w) (w2 : w ≤ 64) (h1 : 1 ≤ hh) (h2 : hh ≤ 64) :
  ∃ lv h',(∀ R : RP,Ret tab 31 [.agg #[.int .i64 pl,pv,dv0],.int .i64 (n : Nat),.int .i64 (w : Nat),.int .i64 (hh : Nat),.int .i64 o,m.val] h R = R lv h') ∧
   RdV h.length h' lv (readP m pl o ps ds n w hh).ls ∧ (∀ id,id < h.length → blk? h' id = blk? h id) ∧ h.length ≤ h'.length := by
 have key : ∀ R0 : RP,(∀ lv h',RdV h.length h' lv (readP m pl o ps ds n w hh).ls → (∀ id,id < h.length → blk? h' id = blk? h id) → h.length ≤ h'.length → R0 lv h') →
   Ret tab 31 [.agg #[.int .i64 pl,pv,dv0],.int .i64 (n : Nat),.int .i64 (w : Nat),.int .i64 (hh : Nat),.int .i64 o,m.val] h R0 := by
  intro R0 hR
  generalize hH : h ++ [some (⟨false,[.int .i64 pl,pv,dv0]⟩ : Blk),some ⟨false,[.bool m.byp,.bool m.res,.bool m.rst,.bool m.cz,.bool m.sy]⟩,some ⟨false,[]⟩] = H
  have lH : H.length = h.length + 3 := by rw [← hH]; simp
  have kH : ∀ id,id < h.length → blk? H id = blk? h id := fun id hid => by rw [← hH]; exact app_lt hid
  have b6 : blk? H h.length = some ⟨false,[.int .i64 pl,pv,dv0]⟩ := by rw [← hH,app_len]; rfl
  have b11 : blk? H (h.length + 1) = some ⟨false,[.bool m.byp,.bool m.res,.bool m.rst,.bool m.cz,.bool m.sy]⟩ := by rw [← hH,app_add]; rfl
  have b13 : blk? H (h.length + 2) = some ⟨false,[]⟩ := by rw [← hH,app_add]; rfl
  have e1 := fun R => new_r (h := H) (R := R) w1 w2 h1 h2
  have cb1 := newHeap_cb H w1 w2 h1 h2
  have k1 := newHeap_low H w hh
  have l1 := newHeap_len H w hh
  generalize newHeap H w hh = H1 at *
  obtain ⟨H2,d,pb,e2,iD,hdB,hpB,l2,k2⟩ := zdec_new (h := H1)
  obtain ⟨gv,H3,e3,og,gB,k3,l3⟩ := segments_x (h := H2) (n := n) (by omega) m
  obtain ⟨sg1,sg2,sg3⟩ := segs_sum (m := m) (n := n) (by omega)
  have k13 : ∀ id,id < H1.length → blk? H3 id = blk? H1 id := fun id hid => by rw [k3 id (by omega),k2 id hid]
  have kH3 : ∀ id,id < H.length → blk? H3 id = blk? H id := fun id hid => by rw [k13 id (by omega),k1 id hid]
  have kh3 : ∀ id,id < h.length → blk? H3 id = blk? h id := fun id hid => by rw [kH3 id (by omega),kH id hid]
  obtain ⟨ga,gc,hgv⟩ := og.shape
  have iD3 : DP H3 d pb (.slice none 0 0) [] 0 (AE.base 19) 0 0 false := iD.keep fun id hid => k3 id (iD.own_lt hid)
  have oE : ∀ id,ownE d pb (.slice none 0 0) id → H1.length ≤ id ∧ id < H2.length := fun id hid => by
   have := iD.own_lt hid
   rcases hid with rfl | rfl | hid
   ·exact ⟨hdB,this⟩
   ·exact ⟨hpB,this⟩
   ·simp [sid] at hid
  have gl : ∀ id,sid gv = some id → H2.length ≤ id ∧ id < H3.length := gB
  have hp3 : Rk .i64 H3 pv ps := hp.keep (by omega) fun id hid _ => kh3 id hid
  have hd3 : Rk .u8 H3 dv0 (ds.map Int.ofNat) := hd.keep (by omega) fun id hid _ => kh3 id hid
  have I0 : ZO (fun id => id < h.length ∨ sid gv = some id) H3 H3 h.length (h.length + 1) (H.length + 1) H.length d pl pv dv0 m (.slice (some ⟨h.length + 2,0,none⟩) 0 1) [] ⟨⟨AE.base 19,[],0,0⟩,none,newBS w hh,(n : Int),[]⟩ := by
   refine ⟨by rw [kH3 _ (by omega)]; exact b6,by rw [kH3 _ (by omega)]; exact b11,⟨by rw [k13 _ (by omega)]; exact cb1.blkp,by rw [k13 _ (by omega)]; exact cb1.blkc,cb1.ok⟩,newBS_good w1 w2 h1 h2,⟨_,_,[],false,⟨⟨0,by omega,.inr ⟨rfl,iD3⟩⟩,by simp [AE.base],base_ok 19,(by intro x hx; cases hx),by simp⟩,fun id hid => ⟨?_,?_,?_⟩⟩,⟨by simp,.inr ⟨h.length + 2,by simp,by rw [kH3 _ (by omega)]; exact b13⟩⟩,rfl,fun i h1 _ => by simp at h1,fun id hid => ?_,by simp [sid]; omega,fun _ _ => rfl,Nat.le_refl _,fun l hl => (by cases hl),⟨?_,by omega,by omega⟩⟩
   ·have := oE id hid
    rintro ((x | x) | x | x | x | ⟨w,hw,_⟩)
    ·omega
    ·have := gl id x; omega
    ·omega
    ·omega
    ·omega
    ·cases hw
   ·have := oE id hid; omega
   ·have := oE id hid; simp [sid]; omega
   ·have : id ≠ H.length ∧ id ≠ h.length + 2 ∧ id < H3.length := by
     rcases hid with (x | x) | x | x | x | ⟨w,hw,_⟩
     ·omega
     ·have := gl id x; omega
     ·omega
     ·omega
     ·omega
     ·cases hw
    exact ⟨this.1,by simp [sid]; omega,this.2.2⟩
   ·rintro (x | x)
    ·omega
    ·have := gl _ x; omega
  have hL := fun K0 K1 K2 K3 K5 K7 K8 K9 Ka Kc Kf Kh Km Kn Ko Kp Kq Kr Ks Kt Ku Kv Kw Kx Ky Kz J0 J1 J2 J3 J4 J5 J6 J7 J8 J9 Ja Jb Jc Jd Je Jf Jg Jh Ji Jj Jk Jl Jm Jn Jo Jp Jq Jr Js Jt Ju Jv Jw Jx Jy Jz Y0 Y1 Y2 Y3 Y4 Y5 Y6 Y7 Y8 Y9 Ya Yb Yc Yd Ye Yf Yg Yh Yi Yj Yk Yl Ym Yn Yo Yp Yq Yr Ys Yt Yu Yv Yw Yx Yy Yz Z0 Z1 Z2 Z3 Z4 Z5 Z6 => zseg_loop (R := R0) (k := [.code (tlC 7 B31)]) (o := o) (sF := readP m pl o ps ds n w hh) (Q := fun id => id < h.length ∨ sid gv = some id) (hB := H3) og (fun id hid => .inr hid) hp3 (fun id hid => .inl (hp.lt hid)) hd3 (fun id hid => .inl (hd.lt hid))
   (fun x hx => (sg3 x hx).1) hps hz hdl hds hpl (by omega)
   (fun h9 lv vs K0 K1 K2 K3 K4 K5 K6 K7 K8 K9 Ka Kb Kc Ke Kf Kg Kh Ki Kj Kk Kl Km Kn Ko Kp Kq Kr Ks Kt Ku Kv Kw Kx Ky Kz J0 J1 J2 J3 J4 J5 J6 J7 J8 J9 Ja Jb Jc Jd Je Jf Jg Jh Ji Jj Jk Jl Jm Jn Jo Jp Jq Jr Js Jt Ju Jv Jw Jx Jy Jz Y0 Y1 Y2 Y3 Y4 Y5 Y6 Y7 Y8 Y9 Ya Yb Yc Yd Ye Yf Yg Yh Yi Yj Yk Yl Ym Yn Yo Yp Yq Yr Ys Yt Yu Yv Yw Yx Yy Yz Z0 Z1 Z2 Z3 Z4 Z5 Z6 I9 => by
    obtain ⟨ta,tc,ht⟩ := I9.ol.sl.shape
    have hR' := hR lv h9 ⟨⟨vs,I9.ol,I9.vl,I9.each,I9.small⟩⟩ (fun id hid => by rw [I9.low id (.inl hid),kh3 id hid]) (by have := I9.len; omega)
    simp only [nthC,tlC,fstC,B31]
    simp [fin31]
    exact hR')
   (segsOf m n).length 0 H3 (.slice (some ⟨h.length + 2,0,none⟩) 0 1) [] _ 0 K0 K1 K2 K3 K5 K7 K8 K9 Ka Kc Kf Kh Km Kn Ko Kp Kq Kr Ks Kt Ku Kv Kw Kx Ky Kz J0 J1 J2 J3 J4 J5 J6 J7 J8 J9 Ja Jb Jc Jd Je Jf Jg Jh Ji Jj Jk Jl Jm Jn Jo Jp Jq Jr Js Jt Ju Jv Jw Jx Jy Jz Y0 Y1 Y2 Y3 Y4 Y5 Y6 Y7 Y8 Y9 Ya Yb Yc Yd Ye Yf Yg Yh Yi Yj Yk Yl Ym Yn Yo Yp Yq Yr Ys Yt Yu Yv Yw Yx Yy Yz Z0 Z1 Z2 Z3 Z4 Z5 Z6 (by omega) I0 (by rw [List.drop_zero]; simp; omega) (by simp [zE]) (by rw [List.drop_zero]; exact segAll_all m n) (by rw [List.drop_zero]; rfl)
  have b112 : blk? H2 (h.length + 1) = some ⟨false,[.bool m.byp,.bool m.res,.bool m.rst,.bool m.cz,.bool m.sy]⟩ := by rw [k2 _ (by omega),k1 _ (by omega)]; exact b11
  simp only [MD.val,Int.cast_ofNat_Int] at e2 e3 hL
  rw [hgv] at e3 hL
  generalize (segsOf m n).length = gl at *
  rw [enter31,show B31 = .seq (nthC 0 B31) (.seq (nthC 1 B31) (.seq (nthC 2 B31) (.seq (nthC 3 B31) (.seq (nthC 4 B31) (.seq (nthC 5 B31) (.seq (nthC 6 B31) (tlC 7 B31))))))) from rfl]
  generalize tlC 7 B31 = tl at *
  simp only [nthC,tlC,fstC,B31]
  simp [MD.val,repL,hH,e1,e2,b112,e3]
  exact hL ..
 obtain ⟨v,h',e,a,b,c⟩ := ret_ex (key (fun v h' => RdV h.length h' v (readP m pl o ps ds n w hh).ls ∧ (∀ id,id < h.length → blk? h' id = blk? h id) ∧ h.length ≤ h'.length) fun lv h' a b c => ⟨a,b,c⟩)
 exact ⟨v,h',e,a,b,c⟩
end
structure PerL (hM H : Heap) (bv : Value) (l : List Int) : Prop where
 low : ∀ id,id < hM.length → blk? H id = blk? hM id
 sbk : blk? H hM.length = some ⟨false,[.pointer none,.pointer none,bv,.slice none 0 0]⟩
 own : OwnS H 1 bv l.length (i64s l)
 far : ∀ id,sid bv = some id → hM.length < id
 len : hM.length < H.length
theorem PerL.step {hM H : Heap} {bv : Value} {l : List Int} (r : PerL hM H bv l) (hl : l.length < 1000000) (x y : Int) :
  ∃ bv' H',appendV (H ++ [some ⟨false,[.int .i64 x,.int .i64 y]⟩,some ⟨false,[.int .i64 y]⟩]) 1 8 bv (.slice (some ⟨H.length + 1,0,none⟩) 1 1) = some (bv',H') ∧ blk? H' hM.length = some ⟨false,[.pointer none,.pointer none,bv,.slice none 0 0]⟩ ∧
   (∃ z n,bv' = .slice (some ⟨z,0,none⟩) n 1) ∧ PerL hM (H'.set hM.length (some ⟨false,[.pointer none,.pointer none,bv',.slice none 0 0]⟩)) bv' (l ++ [y]) := by
 have hsl : Sl (H ++ [some ⟨false,[.int .i64 x,.int .i64 y]⟩,some ⟨false,[.int .i64 y]⟩]) 1 (.slice (some ⟨H.length + 1,0,none⟩) 1 1) 1 [.int .i64 y] := ⟨by simp,.inr ⟨H.length + 1,0,rfl,.inr ⟨_,by rw [app_add]; rfl,by simp,by simp⟩⟩⟩
 have ho : OwnS (H ++ [some ⟨false,[.int .i64 x,.int .i64 y]⟩,some ⟨false,[.int .i64 y]⟩]) 1 bv l.length (i64s l) := r.own.of_blk fun id _ hb => by rw [app_lt (blk?_lt hb)]; exact hb
 obtain ⟨H',ha,hK,hHl,hHs⟩ := own_append (bytes := 8) ho hsl (by unfold roomCells; omega) (by omega) (by omega)
 simp only [List.length_append,List.length_cons,List.length_nil,Nat.zero_add,Nat.reduceAdd] at ha hK hHl hHs
 have hlen := r.len
 have hk : ∀ id,id < H.length → sid bv ≠ some id → blk? H' id = blk? H id := fun id hid hne => by rw [hHs id (by omega) hne,app_lt hid]
 have hsb : sid bv ≠ some hM.length := fun e => by have := r.far _ e; omega
 refine ⟨.slice (some ⟨H.length + 2,0,none⟩) (l.length + 1) 1,H',ha,(hk _ hlen hsb).trans r.sbk,⟨_,_,rfl⟩,⟨fun id hid => ?_,blk?_set_eq (by omega),⟨by simp [i64s],.inr ⟨H.length + 2,by simp,?_⟩⟩,fun id hid => ?_,by simp; omega⟩⟩
 ·rw [blk?_set_ne (by omega),hk id (by omega) (fun e => by have := r.far _ e; omega)]; exact r.low id hid
 ·rw [blk?_set_ne (by omega),hK]; simp [i64s]
 ·simp [sid] at hid; omega
section
variable {hM : Heap} {R : RP}
theorem per_loop {sv v0 v1 v2 v3 v10 v12 : Value} {ss : List (Int × Int)} (hs : Sl hM 2 sv ss.length (encP ss)) (hl : ss.length < 1000000) {k : List RItem}
  (hk : ∀ (H : Heap) (bv : Value) (K4 K6 K7 K8 K9 Kb Ke Kf Kg Kh Ki Kj Kk Kl Km Kn Ko Kp Kq Kr Ks Kt Ku Kv Kw Kx Ky Kz J0 J1 J2 J3 J4 J5 J6 J7 J8 J9 Ja Jb Jc Jd Je Jf Jg Jh Ji Jj Jk Jl Jm Jn Jo Jp Jq Jr Js Jt Ju Jv Jw Jx Jy Jz Y0 Y1 Y2 Y3 Y4 Y5 Y6 Y7 Y8 Y9 Ya Yb Yc Yd Ye Yf Yg Yh Yi Yj Yk Yl Ym Yn Yo Yp Yq Yr : Value),PerL hM H bv (ss.map (·.2)) → Ok tab R70 k #[v0,v1,v2,v3,K4,sv,K6,K7,K8,K9,v10,Kb,v12,ptr hM.length,Ke,Kf,Kg,Kh,Ki,Kj,Kk,Kl,Km,Kn,Ko,Kp,Kq,Kr,Ks,Kt,Ku,Kv,Kw,Kx,Ky,Kz,J0,J1,J2,J3,J4,J5,J6,J7,J8,J9,Ja,Jb,Jc,Jd,Je,Jf,Jg,Jh,Ji,Jj,Jk,Jl,Jm,Jn,Jo,Jp,Jq,Jr,Js,Jt,Ju,Jv,Jw,Jx,Jy,Jz,Y0,Y1,Y2,Y3,Y4,Y5,Y6,Y7,Y8,Y9,Ya,Yb,Yc,Yd,Ye,Yf,Yg,Yh,Yi,Yj,Yk,Yl,Ym,Yn,Yo,Yp,Yq,Yr] H R) :
  ∀ (n i : Nat) (H : Heap) (bv : Value) (K4 K6 K7 K8 K9 Kb Ke Kf Kg Kh Ki Kj Kk Ko Kp Kq Kr Ks Kt Ku Kv Kw Kx Ky Kz J0 J1 J2 J3 J4 J5 J6 J7 J8 J9 Ja Jb Jc Jd Je Jf Jg Jh Ji Jj Jk Jl Jm Jn Jo Jp Jq Jr Js Jt Ju Jv Jw Jx Jy Jz Y0 Y1 Y2 Y3 Y4 Y5 Y6 Y7 Y8 Y9 Ya Yb Yc Yd Ye Yf Yg Yh Yi Yj Yk Yl Ym Yn Yo Yp Yq Yr : Value),n = ss.length - i → i ≤ ss.length → PerL hM H bv ((ss.take i).map (·.2)) →
   Ok tab R70 (.inLoop L70_0 :: .inBlock 0 :: k) #[v0,v1,v2,v3,K4,sv,K6,K7,K8,K9,v10,Kb,v12,ptr hM.length,Ke,Kf,Kg,Kh,Ki,Kj,Kk,sv,.int .i64 ss.length,.int .i64 i,Ko,Kp,Kq,Kr,Ks,Kt,Ku,Kv,Kw,Kx,Ky,Kz,J0,J1,J2,J3,J4,J5,J6,J7,J8,J9,Ja,Jb,Jc,Jd,Je,Jf,Jg,Jh,Ji,Jj,Jk,Jl,Jm,Jn,Jo,Jp,Jq,Jr,Js,Jt,Ju,Jv,Jw,Jx,Jy,Jz,Y0,Y1,Y2,Y3,Y4,Y5,Y6,Y7,Y8,Y9,Ya,Yb,Yc,Yd,Ye,Yf,Yg,Yh,Yi,Yj,Yk,Yl,Ym,Yn,Yo,Yp,Yq,Yr] H R := by
 intro n
 induction n with
 | zero =>
  intro i H bv;intros;rename_i hn hi r
  have hlt : ¬ ((i : Int) < ss.length) := by omega
  rw [ok_round,l70_0,L70_0a,L70_0b]
  simp [hlt]
  rw [List.take_of_length_le (by omega)] at r
  exact hk H bv _ _ _ _ _ _ _ _ _ _ _ _ _ _ _ _ _ _ _ _ _ _ _ _ _ _ _ _ _ _ _ _ _ _ _ _ _ _ _ _ _ _ _ _ _ _ _ _ _ _ _ _ _ _ _ _ _ _ _ _ _ _ _ _ _ _ _ _ _ _ _ _ _ _ _ _ _ _ _ _ _ _ _ _ _ _ _ _ _ _ _ _ r
 | succ n ih =>
  intro i H bv;intros;rename_i hn hi r
  have hlt : ((i : Int) < ss.length) := by omega
  have hil : i < ss.length := by omega
  have hw : IntKind.i64.wrap ((i : Int) + 1) = ((i + 1 : Nat) : Int) := wrapN (n := i + 1) (by omega)
  obtain ⟨id,off,b,hsv,hbk,ht,hle⟩ := encP_at hs hil
  have hb1 : blk? H id = some b := by rw [r.low _ (blk?_lt hbk)]; exact hbk
  obtain ⟨_,H',ha,hsb,⟨z,nz,rfl⟩,r'⟩ := r.step (by simp; omega) ss[i].1 ss[i].2
  have hrr : (ss.take i).map (·.2) ++ [ss[i].2] = (ss.take (i + 1)).map (·.2) := by rw [List.take_succ_eq_append_getElem hil,List.map_append]; rfl
  rw [hrr] at r'
  have ih' := fun K4 K6 K7 K8 K9 Kb Ke Kf Kg Kh Ki Kj Kk Ko Kp Kq Kr Ks Kt Ku Kv Kw Kx Ky Kz J0 J1 J2 J3 J4 J5 J6 J7 J8 J9 Ja Jb Jc Jd Je Jf Jg Jh Ji Jj Jk Jl Jm Jn Jo Jp Jq Jr Js Jt Ju Jv Jw Jx Jy Jz Y0 Y1 Y2 Y3 Y4 Y5 Y6 Y7 Y8 Y9 Ya Yb Yc Yd Ye Yf Yg Yh Yi Yj Yk Yl Ym Yn Yo Yp Yq Yr => ih (i + 1) _ _ K4 K6 K7 K8 K9 Kb Ke Kf Kg Kh Ki Kj Kk Ko Kp Kq Kr Ks Kt Ku Kv Kw Kx Ky Kz J0 J1 J2 J3 J4 J5 J6 J7 J8 J9 Ja Jb Jc Jd Je Jf Jg Jh Ji Jj Jk Jl Jm Jn Jo Jp Jq Jr Js Jt Ju Jv Jw Jx Jy Jz Y0 Y1 Y2 Y3 Y4 Y5 Y6 Y7 Y8 Y9 Ya Yb Yc Yd Ye Yf Yg Yh Yi Yj Yk Yl Ym Yn Yo Yp Yq Yr (by omega) (by omega) r'
  have hlen := r.len
  have hs0 : blk? (H ++ [some (⟨false,[.int .i64 ss[i].1,.int .i64 ss[i].2]⟩ : Blk)]) hM.length = some ⟨false,[.pointer none,.pointer none,bv,.slice none 0 0]⟩ := blk?_push r.sbk
  obtain ⟨ba,bc,hbsh⟩ := r.own.sl.shape
  have hcb : isCell bv = true := by rw [hbsh]; rfl
  rw [ok_round,l70_0,L70_0a,L70_0b]
  generalize ss[i].1 = x at *
  generalize ss[i].2 = y at *
  generalize ((i + 1 : Nat) : Int) = wi at *
  subst hsv
  have hK : ∀ y : Blk,blk? (H ++ [some y]) H.length = some y := fun y => blk?_push_eq
  simp [hlt,hil,hw,hb1,ht,hle,hK,hs0,hcb,repL,ha,hsb,app_len,app_add,app_zero,app_succ,app_set,app_setk]
  exact ih' ..
end
theorem encP_w {h : Heap} {sv : Value} {s : List (Int × Int)} (hs : Sl h 2 sv s.length (encP s)) {i : Nat} (hi : i < s.length) :
  ∃ id off b,sv = .slice (some ⟨id,off,none⟩) s.length 2 ∧ blk? h id = some b ∧ b.cells[off + i * 2]? = some (.int .i64 s[i].1) ∧ b.cells[off + i * 2 + 1]? = some (.int .i64 s[i].2) := by
 obtain ⟨id,off,b,rfl,hb,hc⟩ := hs.get hi
 obtain ⟨g0,g1⟩ := encP_get s i hi
 have c0 := hc 0 (by omega)
 have c1 := hc 1 (by omega)
 rw [Nat.add_zero,Nat.add_zero,g0] at c0
 rw [g1] at c1
 exact ⟨id,off,b,rfl,hb,c0,c1⟩
def fitsTo (ss qs : List (Int × Int)) (i : Nat) : Prop := ∀ j (hj : j < qs.length),j < i → ∃ p,ss[j]? = some p ∧ p.1 = qs[j].1 ∧ (p.2 = 0 ∨ p.2 = 1)
section
variable {h : Heap} {R : RP}
theorem cmp_loop {sv av v13 v16 : Value} {ss qs : List (Int × Int)} (hs : Sl h 2 sv ss.length (encP ss)) (ha : Sl h 2 av qs.length (encP qs)) (hl : ss.length < 1000000) (hq : qs.length < 1000000) {k : List RItem}
  (hk : fits ss qs → ∀ (H : Heap) (K0 K1 K2 K3 K4 K6 K7 K8 K9 Ka Kb Ke Kf Kh Ki Kj Kk Kl Km Kn Ko Kp Kq Kr Ks Kt Ku Kv Kw Kx Ky Kz J0 J1 J2 J3 J4 J5 J6 J7 J8 J9 Ja Jb Jc Jd Je Jf Jg Jh Ji Jj Jk Jl Jm Jn Jo Jp Jq Jr Js Jt Ju Jv Jw Jx Jy Jz Y0 Y1 Y2 Y3 Y4 Y5 Y6 Y7 Y8 Y9 Ya Yb Yc Yd Ye Yf Yg Yh Yi Yj Yk Yl Ym Yn Yo Yp Yq Yr : Value),(∀ id,id < h.length → blk? H id = blk? h id) → h.length ≤ H.length → Ok tab R70 k #[K0,K1,K2,K3,K4,sv,K6,K7,K8,K9,Ka,Kb,.int .i64 0,v13,Ke,Kf,v16,Kh,Ki,Kj,Kk,Kl,Km,Kn,Ko,Kp,Kq,Kr,Ks,Kt,Ku,Kv,Kw,Kx,Ky,Kz,J0,J1,J2,J3,J4,J5,J6,J7,J8,J9,Ja,Jb,Jc,Jd,Je,Jf,Jg,Jh,Ji,Jj,Jk,Jl,Jm,Jn,Jo,Jp,Jq,Jr,Js,Jt,Ju,Jv,Jw,Jx,Jy,Jz,Y0,Y1,Y2,Y3,Y4,Y5,Y6,Y7,Y8,Y9,Ya,Yb,Yc,Yd,Ye,Yf,Yg,Yh,Yi,Yj,Yk,Yl,Ym,Yn,Yo,Yp,Yq,Yr] H R)
  (hbad : ¬ fits ss qs → ∀ H : Heap,(∀ id,id < h.length → blk? H id = blk? h id) → h.length ≤ H.length → R (.int .i64 8) H) :
  ∀ (n i : Nat) (H : Heap) (K0 K1 K2 K3 K4 K6 K7 K8 K9 Ka Kb Ke Kf Kh Ki Kj Kk Kl Km Kn Ko Kp Kq Kr Ks Kt Ku Kv Kw Kx Ky Kz J0 J1 J2 J3 J4 J5 J6 J7 J8 J9 Ja Jb Jc Jg Jh Ji Jj Jk Jl Jm Jn Jo Jp Jq Jr Js Jt Ju Jv Jw Jx Jy Jz Y0 Y1 Y2 Y3 Y4 Y5 Y6 Y7 Y8 Y9 Ya Yb Yc Yd Ye Yf Yg Yh Yi Yj Yk Yl Ym Yn Yo Yp Yq Yr : Value),n = qs.length - i → i ≤ qs.length → fitsTo ss qs i → (∀ id,id < h.length → blk? H id = blk? h id) → h.length ≤ H.length →
   Ok tab R70 (.inLoop L70_1 :: .inBlock 2 :: k) #[K0,K1,K2,K3,K4,sv,K6,K7,K8,K9,Ka,Kb,.int .i64 0,v13,Ke,Kf,v16,Kh,Ki,Kj,Kk,Kl,Km,Kn,Ko,Kp,Kq,Kr,Ks,Kt,Ku,Kv,Kw,Kx,Ky,Kz,J0,J1,J2,J3,J4,J5,J6,J7,J8,J9,Ja,Jb,Jc,av,.int .i64 qs.length,.int .i64 i,Jg,Jh,Ji,Jj,Jk,Jl,Jm,Jn,Jo,Jp,Jq,Jr,Js,Jt,Ju,Jv,Jw,Jx,Jy,Jz,Y0,Y1,Y2,Y3,Y4,Y5,Y6,Y7,Y8,Y9,Ya,Yb,Yc,Yd,Ye,Yf,Yg,Yh,Yi,Yj,Yk,Yl,Ym,Yn,Yo,Yp,Yq,Yr] H R := by
 intro n
 induction n with
 | zero =>
  intro i H;intros;rename_i hn hi hf low hle
  have hlt : ¬ ((i : Int) < qs.length) := by omega
  rw [ok_round,l70_1,L70_1a,L70_1b]
  simp [hlt]
  exact hk (fun j hj => hf j hj (by omega)) H _ _ _ _ _ _ _ _ _ _ _ _ _ _ _ _ _ _ _ _ _ _ _ _ _ _ _ _ _ _ _ _ _ _ _ _ _ _ _ _ _ _ _ _ _ _ _ _ _ _ _ _ _ _ _ _ _ _ _ _ _ _ _ _ _ _ _ _ _ _ _ _ _ _ _ _ _ _ _ _ _ _ _ _ _ _ _ _ _ _ _ _ _ _ _ _ low hle
 | succ n ih =>
  intro i H;intros;rename_i hn hi hf low hle
  have hlt : ((i : Int) < qs.length) := by omega
  have hil : i < qs.length := by omega
  have hw : IntKind.i64.wrap ((i : Int) + 1) = ((i + 1 : Nat) : Int) := wrapN (n := i + 1) (by omega)
  obtain ⟨id,off,b,hav,hbk,ht,hle2⟩ := encP_at ha hil
  have hb1 : blk? H id = some b := by rw [low _ (blk?_lt hbk)]; exact hbk
  obtain ⟨sa,sc,hsh⟩ := hs.shape
  have low' : ∀ x : Option Blk,∀ id,id < h.length → blk? (H ++ [x]) id = blk? h id := fun x id hid => by rw [blk?_push_lt (by omega)]; exact low id hid
  have hle' : ∀ x : Option Blk,h.length ≤ (H ++ [x]).length := fun x => by simp; omega
  have ih' := fun (hf' : fitsTo ss qs (i + 1)) K0 K1 K2 K3 K4 K6 K7 K8 K9 Ka Kb Ke Kf Kh Ki Kj Kk Kl Km Kn Ko Kp Kq Kr Ks Kt Ku Kv Kw Kx Ky Kz J0 J1 J2 J3 J4 J5 J6 J7 J8 J9 Ja Jb Jc Jg Jh Ji Jj Jk Jl Jm Jn Jo Jp Jq Jr Js Jt Ju Jv Jw Jx Jy Jz Y0 Y1 Y2 Y3 Y4 Y5 Y6 Y7 Y8 Y9 Ya Yb Yc Yd Ye Yf Yg Yh Yi Yj Yk Yl Ym Yn Yo Yp Yq Yr => ih (i + 1) (H ++ [some ⟨false,[.int .i64 qs[i].1,.int .i64 qs[i].2]⟩]) K0 K1 K2 K3 K4 K6 K7 K8 K9 Ka Kb Ke Kf Kh Ki Kj Kk Kl Km Kn Ko Kp Kq Kr Ks Kt Ku Kv Kw Kx Ky Kz J0 J1 J2 J3 J4 J5 J6 J7 J8 J9 Ja Jb Jc Jg Jh Ji Jj Jk Jl Jm Jn Jo Jp Jq Jr Js Jt Ju Jv Jw Jx Jy Jz Y0 Y1 Y2 Y3 Y4 Y5 Y6 Y7 Y8 Y9 Ya Yb Yc Yd Ye Yf Yg Yh Yi Yj Yk Yl Ym Yn Yo Yp Yq Yr (by omega) (by omega) hf' (low' _) (hle' _)
  have hK : ∀ y : Blk,blk? (H ++ [some y]) H.length = some y := fun y => blk?_push_eq
  have hbad' := fun hn => hbad hn (H ++ [some ⟨false,[.int .i64 qs[i].1,.int .i64 qs[i].2]⟩]) (low' _) (hle' _)
  rw [ok_round,l70_1,L70_1a,L70_1b]
  by_cases his : i < ss.length
  ·obtain ⟨id2,off2,b2,hsv,hbk2,c0,c1⟩ := encP_w hs his
   have hb2 : blk? (H ++ [some ⟨false,[.int .i64 qs[i].1,.int .i64 qs[i].2]⟩]) id2 = some b2 := by rw [low' _ _ (blk?_lt hbk2)]; exact hbk2
   have hge : ¬ ((ss.length : Int) ≤ i) := by omega
   have hget : ss[i]? = some ss[i] := List.getElem?_eq_getElem his
   have hnf : ¬ (ss[i].1 = qs[i].1 ∧ (ss[i].2 = 0 ∨ ss[i].2 = 1)) → ¬ fits ss qs := fun hc hf' => by
    obtain ⟨p,e1,e2,e3⟩ := hf' i hil
    rw [hget] at e1; injection e1 with e1; subst e1
    exact hc ⟨e2,e3⟩
   have hyf : ss[i].1 = qs[i].1 ∧ (ss[i].2 = 0 ∨ ss[i].2 = 1) → fitsTo ss qs (i + 1) := fun hc j hj hji => by
    by_cases hj' : j < i
    ·exact hf j hj hj'
    ·obtain rfl : j = i := by omega
     exact ⟨_,hget,hc.1,hc.2⟩
   generalize ss[i].1 = p1 at *
   generalize ss[i].2 = p2 at *
   generalize qs[i].1 = q1 at *
   generalize qs[i].2 = q2 at *
   generalize ((i + 1 : Nat) : Int) = wi at *
   subst hav
   subst hsv
   by_cases h1 : p1 = q1
   ·subst h1
    by_cases h2 : p2 = 0
    ·subst h2
     simp [-List.cons_append,-List.append_assoc,k_guard,k_guardU,hlt,hil,his,hge,hw,hb1,ht,hle2,hK,hb2,c0,c1]
     exact ih' (hyf ⟨rfl,.inl rfl⟩) ..
    ·have h2' : (p2 != 0) = true := by simp [h2]
     by_cases h3 : p2 = 1
     ·subst h3
      simp [-List.cons_append,-List.append_assoc,k_guard,k_guardU,hlt,hil,his,hge,hw,hb1,ht,hle2,hK,hb2,c0,c1]
      exact ih' (hyf ⟨rfl,.inr rfl⟩) ..
     ·have h3' : (p2 != 1) = true := by simp [h3]
      simp [-List.cons_append,-List.append_assoc,k_guard,k_guardU,hlt,hil,his,hge,hw,hb1,ht,hle2,hK,hb2,c0,c1,h2',h3',fin70]
      exact hbad' (hnf (by simp [h2,h3]))
   ·have h1' : (p1 != q1) = true := by simp [h1]
    simp [-List.cons_append,-List.append_assoc,k_guard,k_guardU,hlt,hil,his,hge,hw,hb1,ht,hle2,hK,hb2,c0,c1,h1',fin70]
    exact hbad' (hnf (by simp [h1]))
  ·have hge : ((ss.length : Int) ≤ i) := by omega
   have hnf : ¬ fits ss qs := fun hf' => by
    obtain ⟨p,e1,_⟩ := hf' i hil
    rw [List.getElem?_eq_none (by omega)] at e1; cases e1
   generalize qs[i].1 = q1 at *
   generalize qs[i].2 = q2 at *
   subst hav
   subst hsh
   simp [-List.cons_append,-List.append_assoc,k_guard,k_guardU,hlt,hil,hge,hw,hb1,ht,hle2,hK,fin70]
   exact hbad' hnf
end
def bitsOf (ss : List (Int × Int)) : List Int := ss.map (·.2)
def perD (m : MD) (b : BS) (n planes o : Int) (ss : List (Int × Int)) : (BS × Bool) × List (Int × Int) := dOut (askB (bitsOf ss)) m b n planes o []
def perE (m : MD) (b : BS) (n planes o : Int) (ss : List (Int × Int)) : Int :=
 if ¬ fits ss (perD m b n planes o ss).2 then 8 else if dErr n planes o (perD m b n planes o ss).1.2 = 0 ∧ (perD m b n planes o ss).2.length < ss.length then 8 else dErr n planes o (perD m b n planes o ss).1.2
structure PerR (h h' : Heap) (p c : Nat) (b : BS) : Prop where
 cb : CB h' false p c b
 good : b.Good
 same : ∀ id,id < h.length → id ≠ c → blk? h' id = blk? h id
 len : h.length ≤ h'.length
section
variable {h : Heap} {p c : Nat} {b : BS}
theorem perform_q (hb : CB h false p c b) (hg : b.Good) {sv : Value} {ss : List (Int × Int)} (hs : Sl h 2 sv ss.length (encP ss)) (svf : ∀ id,sid sv = some id → id < h.length ∧ id ≠ c) (hl : ss.length < 900000) (n planes o : Int) (m : MD) :
  ∃ h',(∀ R,Ret tab 70 [ptr p,.int .i64 n,.int .i64 planes,.int .i64 o,m.val,sv] h R = R (.int .i64 (perE m b n planes o ss)) h') ∧ PerR h h' p c (perD m b n planes o ss).1.1 := by
 have key : Ret tab 70 [ptr p,.int .i64 n,.int .i64 planes,.int .i64 o,m.val,sv] h fun v h' => v = .int .i64 (perE m b n planes o ss) ∧ PerR h h' p c (perD m b n planes o ss).1.1 := by
  obtain ⟨byp,res,rst,cz,sy⟩ := m
  generalize hM : h ++ [some (⟨false,[.bool byp,.bool res,.bool rst,.bool cz,.bool sy]⟩ : Blk)] = M
  have lowM : ∀ id,id < h.length → blk? M id = blk? h id := fun id hid => by rw [← hM]; exact app_lt hid
  have lenM : M.length = h.length + 1 := by rw [← hM]; simp
  have hmode : blk? M h.length = some ⟨false,[.bool byp,.bool res,.bool rst,.bool cz,.bool sy]⟩ := by rw [← hM]; exact blk?_push_eq
  have lp := blk?_lt hb.blkp
  have lc := blk?_lt hb.blkc
  have hsM : Sl M 2 sv ss.length (encP ss) := hs.of_sid fun id b _ hb => by rw [lowM _ (blk?_lt hb)]; exact hb
  obtain ⟨sa,sc,hsh⟩ := hs.shape
  have r0 : PerL M (M ++ [some ⟨false,[.pointer none,.pointer none,.slice none 0 0,.slice none 0 0]⟩]) (.slice none 0 0) ((ss.take 0).map (·.2)) :=
   ⟨fun id hid => app_lt hid,blk?_push_eq,OwnS.nil _ _,fun id hid => by simp [sid] at hid,by simp⟩
  rw [enter70,show B70 = .seq (nthC 0 B70) (.seq (nthC 1 B70) (.seq (nthC 2 B70) (.seq (nthC 3 B70) (.seq (nthC 4 B70) (tlC 5 B70))))) from rfl]
  generalize hT : tlC 5 B70 = tl
  simp only [nthC,tlC,fstC,B70,MD.val]
  rw [hsh]
  have hX : h ++ [some (⟨false,[.bool byp,.bool res,.bool rst,.bool cz,.bool sy]⟩ : Blk),some ⟨false,[.pointer none,.pointer none,.slice none 0 0,.slice none 0 0]⟩] = M ++ [some ⟨false,[.pointer none,.pointer none,.slice none 0 0,.slice none 0 0]⟩] := by rw [← hM]; simp
  simp [hX]
  rw [← hsh,← lenM]
  refine per_loop hsM (by omega) ?_ _ 0 _ _ _ _ _ _ _ _ _ _ _ _ _ _ _ _ _ _ _ _ _ _ _ _ _ _ _ _ _ _ _ _ _ _ _ _ _ _ _ _ _ _ _ _ _ _ _ _ _ _ _ _ _ _ _ _ _ _ _ _ _ _ _ _ _ _ _ _ _ _ _ _ _ _ _ _ _ _ _ _ _ _ _ _ _ _ _ _ _ _ _ rfl (Nat.zero_le _) r0
  intro H bv;intros;rename_i r
  have hMl := r.len
  have cbH : CB H false p c b := ⟨by rw [r.low _ (by omega),lowM _ lp]; exact hb.blkp,by rw [r.low _ (by omega),lowM _ lc]; exact hb.blkc,hb.ok⟩
  have hbl : (bitsOf ss).length < 1000000 := by simp [bitsOf]; omega
  have rr : RelR c M.length bv (bitsOf ss) H (.slice none 0 0) [] :=
   ⟨r.sbk,OwnS.nil _ _,r.own.sl,fun id hid => ⟨r.own.lt hid,by have := r.far id hid; omega,by have := r.far id hid; omega,by simp [sid]⟩,fun id hid => by simp [sid] at hid,by omega,by omega⟩
  have hpn : ¬ ownA M.length (Value.slice none 0 0) p := by
   rintro (e | e)
   ·omega
   ·simp [sid] at e
  obtain ⟨av,H2,e2,r2⟩ := run_q (A := srcR c M.length bv (bitsOf ss) hbl) (t := Value.slice none 0 0) (s := ([] : List (Int × Int))) cbH hg.rng rr hpn hMl (by show 0 + 100000 < 1000000; omega) n planes o ⟨byp,res,rst,cz,sy⟩
  change ∀ R,Ret tab _ _ H R = R (.int .i64 (dErr n planes o (perD ⟨byp,res,rst,cz,sy⟩ b n planes o ss).1.2)) H2 at e2
  change DRes (srcR c M.length bv (bitsOf ss) hbl) H H2 p (Value.slice none 0 0) av (perD ⟨byp,res,rst,cz,sy⟩ b n planes o ss).1.1 (perD ⟨byp,res,rst,cz,sy⟩ b n planes o ss).2 at r2
  have hsz := (dOut_le (bits := bitsOf ss) (m := ⟨byp,res,rst,cz,sy⟩) hg (n := n) (planes := planes) (o := o) (s := [])).2
  change (perD ⟨byp,res,rst,cz,sy⟩ b n planes o ss).2.length ≤ 0 + 20000 at hsz
  obtain ⟨E,hE⟩ : ∃ E,perE ⟨byp,res,rst,cz,sy⟩ b n planes o ss = E := ⟨_,rfl⟩
  rw [hE]
  unfold perE at hE
  generalize dErr n planes o (perD ⟨byp,res,rst,cz,sy⟩ b n planes o ss).1.2 = e at *
  generalize (perD ⟨byp,res,rst,cz,sy⟩ b n planes o ss).1.1 = b1 at *
  generalize (perD ⟨byp,res,rst,cz,sy⟩ b n planes o ss).2 = qs at *
  have rq : RelR c M.length bv (bitsOf ss) H2 av qs := r2.rel
  have st := r2.st
  have k2 : ∀ id,id < H.length → id ≠ c → ¬ ownA M.length (.slice none 0 0) id → blk? H2 id = blk? H id := st.same
  have own0 : ∀ id,id < M.length → ¬ ownA M.length (.slice none 0 0) id := fun id hid e => by
   rcases e with e | e
   ·omega
   ·simp [sid] at e
  have low2 : ∀ id,id < h.length → id ≠ c → blk? H2 id = blk? h id := fun id hid hc => by rw [k2 id (by omega) hc (own0 id (by omega)),r.low id (by omega),lowM id hid]
  have hl2 : H.length ≤ H2.length := st.len
  have hm2 : blk? H h.length = some ⟨false,[.bool byp,.bool res,.bool rst,.bool cz,.bool sy]⟩ := by rw [r.low _ (by omega)]; exact hmode
  have hs2 : Sl H2 2 sv ss.length (encP ss) := hs.of_sid fun id b hid hb => by rw [low2 id (svf id hid).1 (svf id hid).2]; exact hb
  obtain ⟨aa,ac,hav⟩ := rq.own.sl.shape
  have hsb2 := rq.blk
  simp only [MD.val] at e2
  rw [hav] at hsb2
  have fin : ∀ H' : Heap,(∀ id,id < H2.length → blk? H' id = blk? H2 id) → H2.length ≤ H'.length → PerR h H' p c b1 := fun H' low le =>
   ⟨⟨by rw [low _ (blk?_lt r2.cb.blkp)]; exact r2.cb.blkp,by rw [low _ (blk?_lt r2.cb.blkc)]; exact r2.cb.blkc,r2.cb.ok⟩,r2.good,fun id hid hc => by rw [low id (by omega)]; exact low2 id hid hc,by omega⟩
  have hgo := fun (k : List RItem) hk hbad => cmp_loop (v13 := ptr M.length) (v16 := .int .i64 e) (k := k) (R := fun v h' => v = .int .i64 E ∧ PerR h h' p c b1) hs2 rq.own.sl (by omega) (by omega) hk hbad qs.length 0 H2
  rw [hav] at hgo
  simp [hm2,e2,hsb2]
  refine hgo _ (fun hf => ?_) (fun hf => ?_) _ _ _ _ _ _ _ _ _ _ _ _ _ _ _ _ _ _ _ _ _ _ _ _ _ _ _ _ _ _ _ _ _ _ _ _ _ _ _ _ _ _ _ _ _ _ _ _ _ _ _ _ _ _ _ _ _ _ _ _ _ _ _ _ _ _ _ _ _ _ _ _ _ _ _ _ _ _ _ _ _ _ _ _ _ _ _ _ _ _ _ _ _ rfl (Nat.zero_le _) (fun j hj h0 => by omega) (fun _ _ => rfl) (Nat.le_refl _)
  ·intro H';intros;rename_i low le
   have hsb3 : blk? H' M.length = _ := (low _ (blk?_lt rq.blk)).trans hsb2
   rw [if_neg (by simpa using hf)] at hE
   rw [← hT]
   simp only [tlC,B70]
   rw [hsh]
   by_cases he : e = 0
   ·subst he
    by_cases hlt : qs.length < ss.length
    ·have hltI : (qs.length : Int) < ss.length := by omega
     rw [if_pos ⟨rfl,hlt⟩] at hE
     subst hE
     simp [k_guard,k_guardU,hsb3,hlt,hltI,fin70]
     exact fin H' low le
    ·have hltI : ¬ (qs.length : Int) < ss.length := by omega
     rw [if_neg (fun e => hlt e.2)] at hE
     subst hE
     simp [k_guard,k_guardU,hsb3,hlt,hltI,fin70]
     exact fin H' low le
   ·have he' : (e == 0) = false := by simp [he]
    rw [if_neg (fun x => he x.1)] at hE
    subst hE
    simp [k_guard,k_guardU,hsb3,he,he',fin70]
    exact fin H' low le
  ·intro H' low le
   rw [if_pos hf] at hE
   exact ⟨by rw [← hE],fin H' low le⟩
 obtain ⟨v,h',e,rfl,rs⟩ := ret_ex key
 exact ⟨h',e,rs⟩
end
theorem per_play {m : MD} {b : BS} {n P o : Nat} {ss : List (Int × Int)} (herr : runErr (n : Int) (P : Int) (o : Int) = 0) :
  ((dRun m b n P o).play ss = none → perE m b n P o ss = 8) ∧ ∀ r l',(dRun m b n P o).play ss = some (r,l') → (perD m b n P o ss).1 = r ∧ perE m b n P o ss = if r.2 = false then 16 else match l' with | [] => 0 | _ :: _ => 8 := by
 have hD : perD m b n P o ss = (dRun m b n P o).run (askB (ss.map (·.2))) [] := by
  unfold perD dOut; rw [if_pos herr]; simp only [Int.toNat_natCast]; rfl
 have hde : ∀ r,dErr (n : Int) (P : Int) (o : Int) r = cond r 0 16 := fun r => by unfold dErr; rw [herr]; simp
 obtain ⟨pl1,pl2⟩ := askB_play ss (dRun m b n P o) [] (Nat.zero_le _) (fun i hi => by simp at hi)
 rw [List.length_nil,List.drop_zero] at pl1 pl2
 refine ⟨fun h => ?_,fun r l' h => ?_⟩
 ·unfold perE
  rw [hD,if_pos (pl2 h)]
 ·obtain ⟨s',e1,e2,e3,e4⟩ := pl1 r l' h
  unfold perE
  rw [hD,e1]
  refine ⟨rfl,?_⟩
  rw [if_neg (fun x => x e2),hde]
  cases hr : r.2
  ·simp
  ·simp only [cond_true,true_and,Bool.true_eq_false,if_false]
   by_cases hlt : s'.length < ss.length
   ·rw [if_pos hlt]
    rw [List.drop_eq_getElem_cons hlt] at e4
    rw [e4]
   ·rw [if_neg hlt]
    rw [List.drop_of_length_le (by omega)] at e4
    rw [e4]
theorem vLoop_step {m : MD} {b : BS} {n P o : Nat} {ss : List (Int × Int)} {ls : List (List (Int × Int))} (herr : runErr (n : Int) (P : Int) (o : Int) = 0) :
  (perE m b n P o ss = 0 → vLoop m P o n b (ss :: ls) = vLoop m P o (n + 1) (perD m b n P o ss).1.1 ls) ∧ (perE m b n P o ss ≠ 0 → (vLoop m P o n b (ss :: ls)).2 = perE m b n P o ss) := by
 obtain ⟨h1,h2⟩ := per_play (m := m) (b := b) (ss := ss) herr
 rw [vLoop]
 cases hp : (dRun m b n P o).play ss with
 | none =>
  rw [h1 hp]
  exact ⟨fun h => absurd h (by decide),fun _ => rfl⟩
 | some q =>
  obtain ⟨r,l'⟩ := q
  obtain ⟨e1,e2⟩ := h2 r l' hp
  rw [e1,e2]
  simp only
  split
  ·exact ⟨fun h => absurd h (by decide),fun _ => rfl⟩
  ·cases l' with
   | nil => exact ⟨fun _ => rfl,fun h => absurd rfl h⟩
   | cons y l' => exact ⟨fun h => absurd h (by simp),fun _ => rfl⟩
theorem valsq_loop {h0 : Heap} {M p c : Nat} {m : MD} {s v12 v13 : Value} {vs : List Value} {ls : List (List (Int × Int))} {P O w hh : Nat} (hp : PsI h0 s vs ls) (hrow : ∀ l ∈ ls,l.length < 900000) (hP : P ≤ 60) (hP1 : 0 < ls.length → 1 ≤ P) (hO : O ≤ 3) (hn : ls.length ≤ 3 * P - 2) {k : List RItem} {R : RP} :
  ∀ (n i : Nat) (H : Heap) (b : BS) (K5 K6 K7 K8 K9 Ka Ke Kg Ki Kj Kk Kl Km Kn Ko Kp Kq Kr Ks Kt Ku Kv Kw Kx Ky Kz J0 J1 J2 J3 J4 J5 J6 J7 J8 J9 Ja Jb Jc Jd Je Jf Jg Jh Ji Jj Jk Jl Jm Jn Jo Jp Jq Jr Js Jt Ju Jv Jw Jx Jy Jz Y0 Y1 Y2 Y3 Y4 Y5 Y6 Y7 Y8 Y9 Ya Yb Yc Yd Ye Yf Yg Yh Yi Yj Yk Yl Ym Yn Yo Yp Yq Yr Ys Yt Yu Yv Yw Yx Yy Yz Z0 Z1 Z2 Z3 Z4 Z5 Z6 Z7 Z8 Z9 Za Zb Zc Zd Ze Zf Zg Zh Zi Zj Zk Zl Zm Zn Zo Zp Zq Zr Zs Zt Zu Zv : Value),n = ls.length - i → i ≤ ls.length → VLv h0 H M p c m w hh b →
   (∀ (H' : Heap) (b' : BS) (K5 K6 K7 K8 K9 Ka Ke Kg Kh Ki Kj Kk Kl Km Kn Ko Kp Kq Kr Ks Kt Ku Kv Kw Kx Ky Kz J0 J1 J2 J3 J4 J5 J6 J7 J8 J9 Ja Jb Jc Jd Je Jf Jg Jh Ji Jj Jk Jl Jm Jn Jo Jp Jq Jr Js Jt Ju Jv Jw Jx Jy Jz Y0 Y1 Y2 Y3 Y4 Y5 Y6 Y7 Y8 Y9 Ya Yb Yc Yd Ye Yf Yg Yh Yi Yj Yk Yl Ym Yn Yo Yp Yq Yr Ys Yt Yu Yv Yw Yx Yy Yz Z0 Z1 Z2 Z3 Z4 Z5 Z6 Z7 Z8 Z9 Za Zb Zc Zd Ze Zf Zg Zh Zi Zj Zk Zl Zm Zn Zo Zp Zq Zr Zs Zt Zu Zv : Value),vLoop m P O i b (ls.drop i) = (b',0) → VLv h0 H' M p c m w hh b' → Ok tab R30 k #[s,.int .i64 P,.int .i64 w,.int .i64 hh,.int .i64 O,K5,K6,K7,K8,K9,Ka,ptr M,v12,v13,Ke,ptr p,Kg,Kh,Ki,Kj,Kk,Kl,Km,Kn,Ko,Kp,Kq,Kr,Ks,Kt,Ku,Kv,Kw,Kx,Ky,Kz,J0,J1,J2,J3,J4,J5,J6,J7,J8,J9,Ja,Jb,Jc,Jd,Je,Jf,Jg,Jh,Ji,Jj,Jk,Jl,Jm,Jn,Jo,Jp,Jq,Jr,Js,Jt,Ju,Jv,Jw,Jx,Jy,Jz,Y0,Y1,Y2,Y3,Y4,Y5,Y6,Y7,Y8,Y9,Ya,Yb,Yc,Yd,Ye,Yf,Yg,Yh,Yi,Yj,Yk,Yl,Ym,Yn,Yo,Yp,Yq,Yr,Ys,Yt,Yu,Yv,Yw,Yx,Yy,Yz,Z0,Z1,Z2,Z3,Z4,Z5,Z6,Z7,Z8,Z9,Za,Zb,Zc,Zd,Ze,Zf,Zg,Zh,Zi,Zj,Zk,Zl,Zm,Zn,Zo,Zp,Zq,Zr,Zs,Zt,Zu,Zv] H' R) →
   (∀ (H' : Heap) (e : Int),(vLoop m P O i b (ls.drop i)).2 = e → e ≠ 0 → (∀ id,id < h0.length → blk? H' id = blk? h0 id) → h0.length ≤ H'.length → R (.tuple #[.slice none 0 0,.slice none 0 0,.int .i64 e]) H') →
   Ok tab R30 (.inLoop L30_0 :: .inBlock 0 :: k) #[s,.int .i64 P,.int .i64 w,.int .i64 hh,.int .i64 O,K5,K6,K7,K8,K9,Ka,ptr M,v12,v13,Ke,ptr p,Kg,.int .i64 i,Ki,Kj,Kk,Kl,Km,Kn,Ko,Kp,Kq,Kr,Ks,Kt,Ku,Kv,Kw,Kx,Ky,Kz,J0,J1,J2,J3,J4,J5,J6,J7,J8,J9,Ja,Jb,Jc,Jd,Je,Jf,Jg,Jh,Ji,Jj,Jk,Jl,Jm,Jn,Jo,Jp,Jq,Jr,Js,Jt,Ju,Jv,Jw,Jx,Jy,Jz,Y0,Y1,Y2,Y3,Y4,Y5,Y6,Y7,Y8,Y9,Ya,Yb,Yc,Yd,Ye,Yf,Yg,Yh,Yi,Yj,Yk,Yl,Ym,Yn,Yo,Yp,Yq,Yr,Ys,Yt,Yu,Yv,Yw,Yx,Yy,Yz,Z0,Z1,Z2,Z3,Z4,Z5,Z6,Z7,Z8,Z9,Za,Zb,Zc,Zd,Ze,Zf,Zg,Zh,Zi,Zj,Zk,Zl,Zm,Zn,Zo,Zp,Zq,Zr,Zs,Zt,Zu,Zv] H R := by
 intro n
 obtain ⟨sa0,sc0,hss⟩ := hp.sl.shape
 rw [hp.len] at hss
 induction n with
 | zero =>
  intro i H b;intros;rename_i hm hi vl hk hx
  have hlt : ¬ ((i : Int) < ls.length) := by omega
  rw [List.drop_of_length_le (by omega)] at hk
  rw [ok_round,l30_0,L30_0a,L30_0b]
  rw [hss] at hk ⊢
  simp [hlt]
  exact hk H b _ _ _ _ _ _ _ _ _ _ _ _ _ _ _ _ _ _ _ _ _ _ _ _ _ _ _ _ _ _ _ _ _ _ _ _ _ _ _ _ _ _ _ _ _ _ _ _ _ _ _ _ _ _ _ _ _ _ _ _ _ _ _ _ _ _ _ _ _ _ _ _ _ _ _ _ _ _ _ _ _ _ _ _ _ _ _ _ _ _ _ _ _ _ _ _ _ _ _ _ _ _ _ _ _ _ _ _ _ _ _ _ _ _ _ _ _ _ _ _ _ _ _ _ _ _ _ _ _ _ _ rfl vl
 | succ n ih =>
  intro i H b;intros;rename_i hm hi vl hk hx
  have hil : i < ls.length := by omega
  have hivs : i < vs.length := by rw [hp.len]; exact hil
  have hlt : ((i : Int) < ls.length) := by omega
  have hw : IntKind.i64.wrap ((i : Int) + 1) = ((i + 1 : Nat) : Int) := wrapN (n := i + 1) (by omega)
  have hpH := hp.keep vl.len vl.low
  obtain ⟨id,off,bk,hs,hbk,hc⟩ := hpH.sl.get hivs
  have hc0 := hc 0 (by omega)
  rw [Nat.mul_one,Nat.add_zero,Nat.add_zero,List.getElem?_eq_getElem hivs] at hc0
  have hsl := hpH.each i hivs hil
  have hfar := hp.lt i hivs
  obtain ⟨d1,d2⟩ := vl.d
  have hlM := blk?_lt vl.box
  have hlen0 := vl.len
  have herr : runErr (i : Int) (P : Int) (O : Int) = 0 := by unfold runErr; rw [if_neg (by omega),if_neg (by omega)]
  obtain ⟨H2,e,pr⟩ := perform_q vl.cb vl.good hsl (fun id hid => by have := hfar id hid; omega) (hrow _ (List.getElem_mem hil)) i P O m
  have hst := vLoop_step (m := m) (b := b) (ss := ls[i]) (ls := ls.drop (i + 1)) herr
  rw [List.drop_eq_getElem_cons hil] at hk hx
  have hle : b.Le (perD m b i P O ls[i]).1.1 := (dOut_le vl.good).1
  generalize vs[i] = sv at *
  generalize ls[i] = l at *
  have hlow2 : ∀ id,id < h0.length → blk? H2 id = blk? h0 id := fun id hid => by rw [pr.same id (by omega) (by omega)]; exact vl.low id hid
  have hlen2 := pr.len
  have hbox := vl.box
  obtain ⟨sa,scc,hsh⟩ := hsl.shape
  rw [hs] at hss
  injection hss with hss1 hss2 hss3
  rw [ok_round,l30_0,L30_0a,L30_0b]
  simp only [MD.val] at e
  generalize perE m b i P O l = er at *
  subst hsh
  subst hs
  rw [hss2] at *
  have hivl : i < ls.length := hil
  by_cases he : er = 0
  ·subst he
   rw [hst.1 rfl] at hk hx
   have vl2 : VLv h0 H2 M p c m w hh (perD m b i P O l).1.1 := ⟨hlow2,by omega,by rw [pr.same M hlM d2]; exact vl.box,pr.cb,pr.good,⟨d1,d2⟩,hle.w.trans vl.bw,hle.h.trans vl.bh,vl.dp⟩
   have ih' := fun K5 K6 K7 K8 K9 Ka Ke Kg Ki Kj Kk Kl Km Kn Ko Kp Kq Kr Ks Kt Ku Kv Kw Kx Ky Kz J0 J1 J2 J3 J4 J5 J6 J7 J8 J9 Ja Jb Jc Jd Je Jf Jg Jh Ji Jj Jk Jl Jm Jn Jo Jp Jq Jr Js Jt Ju Jv Jw Jx Jy Jz Y0 Y1 Y2 Y3 Y4 Y5 Y6 Y7 Y8 Y9 Ya Yb Yc Yd Ye Yf Yg Yh Yi Yj Yk Yl Ym Yn Yo Yp Yq Yr Ys Yt Yu Yv Yw Yx Yy Yz Z0 Z1 Z2 Z3 Z4 Z5 Z6 Z7 Z8 Z9 Za Zb Zc Zd Ze Zf Zg Zh Zi Zj Zk Zl Zm Zn Zo Zp Zq Zr Zs Zt Zu Zv => ih (i + 1) H2 _ K5 K6 K7 K8 K9 Ka Ke Kg Ki Kj Kk Kl Km Kn Ko Kp Kq Kr Ks Kt Ku Kv Kw Kx Ky Kz J0 J1 J2 J3 J4 J5 J6 J7 J8 J9 Ja Jb Jc Jd Je Jf Jg Jh Ji Jj Jk Jl Jm Jn Jo Jp Jq Jr Js Jt Ju Jv Jw Jx Jy Jz Y0 Y1 Y2 Y3 Y4 Y5 Y6 Y7 Y8 Y9 Ya Yb Yc Yd Ye Yf Yg Yh Yi Yj Yk Yl Ym Yn Yo Yp Yq Yr Ys Yt Yu Yv Yw Yx Yy Yz Z0 Z1 Z2 Z3 Z4 Z5 Z6 Z7 Z8 Z9 Za Zb Zc Zd Ze Zf Zg Zh Zi Zj Zk Zl Zm Zn Zo Zp Zq Zr Zs Zt Zu Zv (by omega) (by omega) vl2 hk hx
   generalize ((i + 1 : Nat) : Int) = wi at *
   simp [hlt,hivl,hbk,hc0,hbox,e,hw]
   exact ih' ..
  ·have he' : (er != 0) = true := by simp [he]
   simp [hlt,hivl,hbk,hc0,hbox,e,he,he',fin30]
   exact hx H2 er (hst.2 he) he hlow2 (by omega)
theorem get_at {b : BS} (ho : b.Ok) {i : Nat} (hi : i < b.w * b.h) : b.cs[i]? = some (b.get ((i % b.w : Nat) : Int) ((i / b.w : Nat) : Int)) := by
 have hw := ho.w1
 have h1 := BS.get_in ho (inb_divmod (i := i) (h := b.h) (w := b.w) (by omega) hi b.cs)
 have h2 := idx_divmod (w := b.w) (h := b.h) (i := i) (by omega) b.cs
 rw [show (⟨b.w,b.h,b.cs⟩ : BS) = b from rfl] at h2
 rw [h2] at h1
 exact h1
section
variable {h0 : Heap} {p c : Nat} {b : BS} {P n : Nat} {pl kd : Int} {k : List RItem} {R : RP} {a0 : Option Addr} {c0 : Nat}
theorem valo_loop (hP : P ≤ 60) (hpl : -1 ≤ pl ∧ pl ≤ 100) (hn1 : n < 1000000) (hl0 : n = 0 → ∀ t,leftOf P n t = P) (hl1 : n ≠ 0 → ∀ t,leftOf P n t = if kd = 2 ∨ t = true then P - 1 - pl else P - pl)
  (hk : ∀ (H' : Heap) (v1' v2' : Value) (K0 K1 K2 K3 K4 K5 K6 K7 K8 K9 Ka Kb Ke Kf Kg Kh Ki Kj Kk Kl Km Kn Ko Kp Kq Kr Ks Kt Ku Kv Kw Kx Ky Kz J0 J1 J2 J3 J4 J5 J6 J7 J8 J9 Ja Jb Jc Jd Je Jf Jg Jh Ji Jj Jk Jl Jm Jn Jo Jp Jq Jr Js Jt Ju Jv Jw Jx Jy Jz Y0 Y1 Y2 Y3 Y4 Y5 Y6 Y7 Y8 Y9 Ya Yb Yc Yd Ye Yf Yg Yh Yi Yj Yk Yl Ym Yn Yo Yp Yq Yr Ys Yt Yu Yv Yw Yx Yy Yz Z0 Z1 Z2 Z3 Z4 Z5 Z6 Z7 Z8 Z9 Za Zb Zc Zd Ze Zf Zg Zh Zi Zj Zk Zl Zm Zn Zo Zp Zq Zr Zs Zt Zu Zv : Value),VB h0 H' p c b v1' v2' (valsTo b (b.w * b.h)) (missTo P n b (b.w * b.h)) → Ok tab R30 k #[K0,K1,K2,K3,K4,K5,K6,K7,K8,K9,Ka,Kb,v1',v2',Ke,Kf,Kg,Kh,Ki,Kj,Kk,Kl,Km,Kn,Ko,Kp,Kq,Kr,Ks,Kt,Ku,Kv,Kw,Kx,Ky,Kz,J0,J1,J2,J3,J4,J5,J6,J7,J8,J9,Ja,Jb,Jc,Jd,Je,Jf,Jg,Jh,Ji,Jj,Jk,Jl,Jm,Jn,Jo,Jp,Jq,Jr,Js,Jt,Ju,Jv,Jw,Jx,Jy,Jz,Y0,Y1,Y2,Y3,Y4,Y5,Y6,Y7,Y8,Y9,Ya,Yb,Yc,Yd,Ye,Yf,Yg,Yh,Yi,Yj,Yk,Yl,Ym,Yn,Yo,Yp,Yq,Yr,Ys,Yt,Yu,Yv,Yw,Yx,Yy,Yz,Z0,Z1,Z2,Z3,Z4,Z5,Z6,Z7,Z8,Z9,Za,Zb,Zc,Zd,Ze,Zf,Zg,Zh,Zi,Zj,Zk,Zl,Zm,Zn,Zo,Zp,Zq,Zr,Zs,Zt,Zu,Zv] H' R) :
  ∀ (m i : Nat) (H : Heap) (v1 v2 : Value) (K4 K5 K6 K7 K8 K9 Ka Kb Ke Kg Kh Ki Km Kn Ko Kp Kq Kr Ks Kt Ku Kv Kw Kx Ky Kz J0 J1 J2 J3 J4 J5 J6 J7 J8 J9 Ja Jb Jc Jd Je Jf Jg Jh Ji Jj Jk Jl Jm Jn Jo Jp Jq Jr Js Jt Ju Jv Jw Jx Jy Jz Y0 Y1 Y2 Y3 Y4 Y5 Y6 Y7 Y8 Y9 Ya Yb Yc Yd Ye Yf Yg Yh Yi Yj Yk Yl Ym Yn Yo Yp Yq Yr Ys Yt Yu Yv Yw Yx Yy Yz Z0 Z1 Z2 Z3 Z4 Z5 Z6 Z7 Z8 Z9 Za Zb Zc Zd Ze Zf Zg Zh Zi Zj Zk Zl Zm Zn Zo Zp Zq Zr Zs Zt Zu Zv : Value),m = b.w * b.h - i → i ≤ b.w * b.h → VB h0 H p c b v1 v2 (valsTo b i) (missTo P n b i) →
   Ok tab R30 (.inLoop L30_1 :: .inBlock 2 :: k) #[.slice a0 n c0,.int .i64 P,.int .i64 b.w,.int .i64 b.h,K4,K5,K6,K7,K8,K9,Ka,Kb,v1,v2,Ke,ptr p,Kg,Kh,Ki,.int .i64 pl,.int .i64 kd,.int .i64 i,Km,Kn,Ko,Kp,Kq,Kr,Ks,Kt,Ku,Kv,Kw,Kx,Ky,Kz,J0,J1,J2,J3,J4,J5,J6,J7,J8,J9,Ja,Jb,Jc,Jd,Je,Jf,Jg,Jh,Ji,Jj,Jk,Jl,Jm,Jn,Jo,Jp,Jq,Jr,Js,Jt,Ju,Jv,Jw,Jx,Jy,Jz,Y0,Y1,Y2,Y3,Y4,Y5,Y6,Y7,Y8,Y9,Ya,Yb,Yc,Yd,Ye,Yf,Yg,Yh,Yi,Yj,Yk,Yl,Ym,Yn,Yo,Yp,Yq,Yr,Ys,Yt,Yu,Yv,Yw,Yx,Yy,Yz,Z0,Z1,Z2,Z3,Z4,Z5,Z6,Z7,Z8,Z9,Za,Zb,Zc,Zd,Ze,Zf,Zg,Zh,Zi,Zj,Zk,Zl,Zm,Zn,Zo,Zp,Zq,Zr,Zs,Zt,Zu,Zv] H R := by
 intro m
 induction m with
 | zero =>
  intro i H v1 v2;intros;rename_i hm hi vb
  have hw2 := vb.cb.ok.w2
  have hh2 := vb.cb.ok.h2
  have hm64 : b.w * b.h ≤ 64 * 64 := Nat.mul_le_mul hw2 hh2
  have hmw : IntKind.i64.wrap ((b.w : Int) * (b.h : Int)) = ((b.w * b.h : Nat) : Int) := by rw [← Int.natCast_mul]; exact wrapN (by omega)
  have hlt : ¬ ((i : Int) < ((b.w * b.h : Nat) : Int)) := by omega
  obtain rfl : i = b.w * b.h := by omega
  rw [ok_round,l30_1,L30_1a,L30_1b]
  generalize ((b.w * b.h : Nat) : Int) = wh at *
  simp [hmw,hlt]
  exact hk H v1 v2 _ _ _ _ _ _ _ _ _ _ _ _ _ _ _ _ _ _ _ _ _ _ _ _ _ _ _ _ _ _ _ _ _ _ _ _ _ _ _ _ _ _ _ _ _ _ _ _ _ _ _ _ _ _ _ _ _ _ _ _ _ _ _ _ _ _ _ _ _ _ _ _ _ _ _ _ _ _ _ _ _ _ _ _ _ _ _ _ _ _ _ _ _ _ _ _ _ _ _ _ _ _ _ _ _ _ _ _ _ _ _ _ _ _ _ _ _ _ _ _ _ _ _ _ _ _ _ _ _ _ _ _ _ _ _ _ _ _ vb
 | succ m ih =>
  intro i H v1 v2;intros;rename_i hm hi vb
  have hw1 := vb.cb.ok.w1
  have hw2 := vb.cb.ok.w2
  have hh2 := vb.cb.ok.h2
  have hm64 : b.w * b.h ≤ 64 * 64 := Nat.mul_le_mul hw2 hh2
  have hil : i < b.w * b.h := by omega
  have hmw : IntKind.i64.wrap ((b.w : Int) * (b.h : Int)) = ((b.w * b.h : Nat) : Int) := by rw [← Int.natCast_mul]; exact wrapN (by omega)
  have hlt : ((i : Int) < ((b.w * b.h : Nat) : Int)) := by omega
  have hw : IntKind.i64.wrap ((i : Int) + 1) = ((i + 1 : Nat) : Int) := wrapN (n := i + 1) (by omega)
  have hgi := get_at vb.cb.ok hil
  have hcl : i < b.cs.length := by rw [vb.cb.ok.len]; exact hil
  have hmod : (i : Int).tmod (b.w : Int) = ((i % b.w : Nat) : Int) := rfl
  have hdiv : (i : Int).tdiv (b.w : Int) = ((i / b.w : Nat) : Int) := rfl
  have hdw : IntKind.i64.wrap ((i / b.w : Nat) : Int) = ((i / b.w : Nat) : Int) := wrapN (by have := Nat.div_le_self i b.w; omega)
  have hw0 : ¬ b.w = 0 := by omega
  have hwa : IntKind.i64.wrap ((P : Int) - 1) = (P : Int) - 1 := wrapI (by omega) (by omega)
  have hwb : IntKind.i64.wrap ((P : Int) - 1 - pl) = (P : Int) - 1 - pl := wrapI (by omega) (by omega)
  have hwc : IntKind.i64.wrap ((P : Int) - pl) = (P : Int) - pl := wrapI (by omega) (by omega)
  have hv := fun R => value_r (R := R) (x := ((i % b.w : Nat) : Int)) (y := ((i / b.w : Nat) : Int)) vb.cb
  obtain ⟨H1,e1,vb1⟩ := vb.push1 (by rw [valsTo_len (by omega)]; omega) (b.get ((i % b.w : Nat) : Int) ((i / b.w : Nat) : Int)).v
  have ht := fun R => touched_r (R := R) (x := ((i % b.w : Nat) : Int)) (y := ((i / b.w : Nat) : Int)) vb1.cb
  obtain ⟨H2,e2,vb2⟩ := vb1.swap.push1 (by rw [missTo_len (by omega)]; omega) (leftOf P n (b.get ((i % b.w : Nat) : Int) ((i / b.w : Nat) : Int)).t)
  have vb3 := vb2.swap
  rw [← valsTo_succ hgi,← missTo_succ (P := P) (n := n) hgi] at vb3
  rw [valsTo_len (by omega)] at e1 vb3
  rw [missTo_len (by omega)] at e2 vb3
  have hl1' := fun h => hl1 h (b.get ((i % b.w : Nat) : Int) ((i / b.w : Nat) : Int)).t
  have hl0' := fun h => hl0 h (b.get ((i % b.w : Nat) : Int) ((i / b.w : Nat) : Int)).t
  have ih' := fun K4 K5 K6 K7 K8 K9 Ka Kb Ke Kg Kh Ki Km Kn Ko Kp Kq Kr Ks Kt Ku Kv Kw Kx Ky Kz J0 J1 J2 J3 J4 J5 J6 J7 J8 J9 Ja Jb Jc Jd Je Jf Jg Jh Ji Jj Jk Jl Jm Jn Jo Jp Jq Jr Js Jt Ju Jv Jw Jx Jy Jz Y0 Y1 Y2 Y3 Y4 Y5 Y6 Y7 Y8 Y9 Ya Yb Yc Yd Ye Yf Yg Yh Yi Yj Yk Yl Ym Yn Yo Yp Yq Yr Ys Yt Yu Yv Yw Yx Yy Yz Z0 Z1 Z2 Z3 Z4 Z5 Z6 Z7 Z8 Z9 Za Zb Zc Zd Ze Zf Zg Zh Zi Zj Zk Zl Zm Zn Zo Zp Zq Zr Zs Zt Zu Zv => ih (i + 1) H2 _ _ K4 K5 K6 K7 K8 K9 Ka Kb Ke Kg Kh Ki Km Kn Ko Kp Kq Kr Ks Kt Ku Kv Kw Kx Ky Kz J0 J1 J2 J3 J4 J5 J6 J7 J8 J9 Ja Jb Jc Jd Je Jf Jg Jh Ji Jj Jk Jl Jm Jn Jo Jp Jq Jr Js Jt Ju Jv Jw Jx Jy Jz Y0 Y1 Y2 Y3 Y4 Y5 Y6 Y7 Y8 Y9 Ya Yb Yc Yd Ye Yf Yg Yh Yi Yj Yk Yl Ym Yn Yo Yp Yq Yr Ys Yt Yu Yv Yw Yx Yy Yz Z0 Z1 Z2 Z3 Z4 Z5 Z6 Z7 Z8 Z9 Za Zb Zc Zd Ze Zf Zg Zh Zi Zj Zk Zl Zm Zn Zo Zp Zq Zr Zs Zt Zu Zv (by omega) (by omega) vb3
  rw [ok_round,l30_1,L30_1a,L30_1b]
  generalize leftOf P n (b.get ((i % b.w : Nat) : Int) ((i / b.w : Nat) : Int)).t = lf at *
  generalize (b.get ((i % b.w : Nat) : Int) ((i / b.w : Nat) : Int)).v = vv at *
  generalize (b.get ((i % b.w : Nat) : Int) ((i / b.w : Nat) : Int)).t = tt at *
  generalize ((b.w * b.h : Nat) : Int) = wh at *
  generalize ((i / b.w : Nat) : Int) = yy at *
  generalize ((i % b.w : Nat) : Int) = xx at *
  generalize ((i + 1 : Nat) : Int) = wi at *
  by_cases h1 : n = 0
  ·have h1' : ((n : Int) == 0) = true := by simp [h1]
   have := hl0' h1
   subst this
   simp [k_guard,k_guardU,hmw,hlt,hmod,hdiv,hdw,hw0,hv,repL,e1,h1',e2,hw]
   exact ih' ..
  ·have h1' : ((n : Int) == 0) = false := by simp [h1]
   have hl := hl1' h1
   by_cases h2 : kd = 2
   ·have h2' : (kd == 2) = true := by simp [h2]
    rw [if_pos (.inl h2)] at hl
    subst hl
    simp [k_guard,k_guardU,hmw,hlt,hmod,hdiv,hdw,hw0,hv,repL,e1,h1',h2',hwa,hwb,e2,hw]
    exact ih' ..
   ·have h2' : (kd == 2) = false := by simp [h2]
    cases tt
    ·rw [if_neg (by simp [h2])] at hl
     subst hl
     simp [k_guard,k_guardU,hmw,hlt,hmod,hdiv,hdw,hw0,hv,repL,e1,h1',h2',ht,hwc,e2,hw]
     exact ih' ..
    ·rw [if_pos (.inr rfl)] at hl
     subst hl
     simp [k_guard,k_guardU,hmw,hlt,hmod,hdiv,hdw,hw0,hv,repL,e1,h1',h2',ht,hwa,hwb,e2,hw]
     exact ih' ..
end
theorem pass_neg1 {h : Heap} {R : RP} : Ret tab 32 [.int .i64 (-1)] h R = R (.tuple #[.int .i64 (-1),.int .i64 (-1)]) h := by
 rw [enter32,B32]
 simp [fin32]
theorem values_q {h : Heap} {s : Value} {vs : List Value} {ls : List (List (Int × Int))} (hp : PsI h s vs ls) (hl : ls.length < 100000) (hrow : ∀ l ∈ ls,l.length < 900000) (P w hh o : Int) (hPr : -9223372036854775808 ≤ P ∧ P < 9223372036854775808) (m : MD) :
    ∃ v1 v2 h',(∀ R,Ret tab 30 [s,.int .i64 P,.int .i64 w,.int .i64 hh,.int .i64 o,m.val] h R = R (.tuple #[v1,v2,.int .i64 (valRes ls P w hh o m).1]) h') ∧ VOut h h' v1 v2 (valRes ls P w hh o m) := by
  have key : Ret tab 30 [s,.int .i64 P,.int .i64 w,.int .i64 hh,.int .i64 o,m.val] h fun v h' => ∃ v1 v2,v = .tuple #[v1,v2,.int .i64 (valRes ls P w hh o m).1] ∧ VOut h h' v1 v2 (valRes ls P w hh o m) := by
    obtain ⟨a,cc,hs⟩ := hp.sl.shape
    rw [hp.len] at hs
    rw [enter30,show B30 = .seq (nthC 0 B30) (.seq (nthC 1 B30) (.seq (nthC 2 B30) (.seq (nthC 3 B30) (tlC 4 B30)))) from rfl]
    generalize hT : tlC 4 B30 = tl
    simp only [nthC,tlC,fstC,B30]
    have hkp : ∀ x : Option Blk,∀ id,id < h.length → blk? (h ++ [x]) id = blk? h id := fun x id hid => blk?_push_lt hid
    have hbadr : ∀ e,valErr ls.length P w hh o = e → e ≠ 0 → valRes ls P w hh o m = (e,[],[]) := fun e he h0 => by unfold valRes; rw [he,if_pos h0]
    by_cases hb2 : (w < 1 ∨ 64 < w ∨ hh < 1 ∨ 64 < hh) ∨ P < 0 ∨ 60 < P
    · have hr := hbadr 2 (by unfold valErr; rw [if_pos]; rcases hb2 with hb2 | hb2; · left; simp [sized]; omega
                             · exact .inr hb2) (by decide)
      rw [hr]
      by_cases c1 : w < 1
      · simp [MD.val,k_guard,k_guardU,c1,fin30]
        exact ⟨_,_,⟨rfl,rfl⟩,VOut.bad (hkp _) (by simp) _⟩
      by_cases c2 : 64 < w
      · simp [MD.val,k_guard,k_guardU,c1,c2,fin30]
        exact ⟨_,_,⟨rfl,rfl⟩,VOut.bad (hkp _) (by simp) _⟩
      by_cases c3 : hh < 1
      · simp [MD.val,k_guard,k_guardU,c1,c2,c3,fin30]
        exact ⟨_,_,⟨rfl,rfl⟩,VOut.bad (hkp _) (by simp) _⟩
      by_cases c4 : 64 < hh
      · simp [MD.val,k_guard,k_guardU,c1,c2,c3,c4,fin30]
        exact ⟨_,_,⟨rfl,rfl⟩,VOut.bad (hkp _) (by simp) _⟩
      by_cases c5 : P < 0
      · simp [MD.val,k_guard,k_guardU,c1,c2,c3,c4,c5,fin30]
        exact ⟨_,_,⟨rfl,rfl⟩,VOut.bad (hkp _) (by simp) _⟩
      · have c6 : 60 < P := by omega
        simp [MD.val,k_guard,k_guardU,c1,c2,c3,c4,c5,c6,fin30]
        exact ⟨_,_,⟨rfl,rfl⟩,VOut.bad (hkp _) (by simp) _⟩
    have c1 : ¬ w < 1 := by omega
    have c2 : ¬ 64 < w := by omega
    have c3 : ¬ hh < 1 := by omega
    have c4 : ¬ 64 < hh := by omega
    have c5 : ¬ P < 0 := by omega
    have c6 : ¬ 60 < P := by omega
    have hsz : sized w hh = true := by simp [sized]; omega
    have hne2 : ¬ (¬ sized w hh = true ∨ P < 0 ∨ 60 < P) := by rw [hsz]; simp; omega
    have hm1 : IntKind.i64.wrap (3 * P) = 3 * P := wrapI (by omega) (by omega)
    have hm2 : IntKind.i64.wrap (3 * P - 2) = 3 * P - 2 := wrapI (by omega) (by omega)
    have hmx : fold1 max2V [.int .i64 0,.int .i64 (3 * P - 2)] = some (.int .i64 (max 0 (3 * P - 2))) := by
      simp only [fold1,foldO,max2V]
      congr 2
      split <;> omega
    by_cases hln : max 0 (3 * P - 2) < (ls.length : Int)
    · have hr := hbadr 4 (by unfold valErr; rw [if_neg hne2,if_pos hln]) (by decide)
      rw [hr]
      simp [MD.val,k_guard,k_guardU,c1,c2,c3,c4,c5,c6,hs,hm1,hm2,hmx,hln,fin30]
      exact ⟨_,_,⟨rfl,rfl⟩,VOut.bad (hkp _) (by simp) _⟩
    have hvo := fun R => validOrient_r (h := h ++ [some ⟨false,[.bool m.byp,.bool m.res,.bool m.rst,.bool m.cz,.bool m.sy]⟩]) (R := R) (o := o)
    by_cases ho : 0 ≤ o ∧ o ≤ 3
    case neg =>
      have hr := hbadr 3 (by unfold valErr; rw [if_neg hne2,if_neg hln,if_pos (by omega)]) (by decide)
      rw [decide_eq_false ho] at hvo
      rw [hr]
      simp [MD.val,k_guard,k_guardU,c1,c2,c3,c4,c5,c6,hs,hm1,hm2,hmx,hln,hvo,fin30]
      exact ⟨_,_,⟨rfl,rfl⟩,VOut.bad (hkp _) (by simp) _⟩
    rw [decide_eq_true ho] at hvo
    obtain ⟨P,rfl⟩ := Int.eq_ofNat_of_zero_le (show 0 ≤ P by omega)
    obtain ⟨o,rfl⟩ := Int.eq_ofNat_of_zero_le (show 0 ≤ o by omega)
    obtain ⟨w,rfl⟩ := Int.eq_ofNat_of_zero_le (show 0 ≤ w by omega)
    obtain ⟨hh,rfl⟩ := Int.eq_ofNat_of_zero_le (show 0 ≤ hh by omega)
    have w1 : 1 ≤ w := by omega
    have w2 : w ≤ 64 := by omega
    have h1 : 1 ≤ hh := by omega
    have h2 : hh ≤ 64 := by omega
    have herr : valErr ls.length (P : Int) w hh o = 0 := by unfold valErr; rw [if_neg hne2,if_neg hln,if_neg (by omega)]
    generalize hr : valRes ls (P : Int) w hh o m = r
    have hr' : r = if (vLoop m P o 0 (newBS w hh) ls).2 ≠ 0 then ((vLoop m P o 0 (newBS w hh) ls).2,[],[]) else (0,(vLoop m P o 0 (newBS w hh) ls).1.cs.map (·.v),(vLoop m P o 0 (newBS w hh) ls).1.cs.map fun c => leftOf P ls.length c.t) := by
      rw [← hr]; unfold valRes; rw [herr,if_neg (by simp)]; simp only [Int.toNat_natCast]
    have hnew := fun H R => new_r (h := H) (R := R) w1 w2 h1 h2
    have hls : ∀ H : Heap,(newHeap H w hh).length = H.length + 2 := fun H => newHeap_len H w hh
    have hlow : ∀ x : Option Blk,∀ id,id < h.length → blk? (newHeap (h ++ [x]) w hh) id = blk? h id := fun x id hid => by
      rw [newHeap_low _ _ _ id (by simp; omega)]; exact hkp x id hid
    simp [MD.val,k_guard,k_guardU,c1,c2,c3,c4,c5,c6,hs,hm1,hm2,hmx,hln,hvo]
    rw [← hT]
    simp only [tlC,B30]
    generalize hH : newHeap (h ++ [some (⟨false,[.bool m.byp,.bool m.res,.bool m.rst,.bool m.cz,.bool m.sy]⟩ : Blk)]) w hh = H
    have hlowH : ∀ id,id < h.length → blk? H id = blk? h id := by rw [← hH]; exact hlow _
    have hlenH : H.length = h.length + 3 := by rw [← hH,hls]; simp
    have vl : VLv h H h.length (h.length + 2) (h.length + 1) m w hh (newBS w hh) := by
      refine ⟨hlowH,by omega,?_,?_,newBS_good w1 w2 h1 h2,⟨by omega,by omega⟩,rfl,rfl,by omega⟩
      · rw [← hH,newHeap_low _ _ _ _ (by simp)]; exact blk?_push_eq
      · rw [← hH]
        have := newHeap_cb (h ++ [some (⟨false,[.bool m.byp,.bool m.res,.bool m.rst,.bool m.cz,.bool m.sy]⟩ : Blk)]) w1 w2 h1 h2
        simpa using this
    have hvn : (vLoop m P o 0 (newBS w hh) (ls.drop 0)) = vLoop m P o 0 (newBS w hh) ls := rfl
    simp [hnew,hH]
    rw [← hs]
    refine valsq_loop (w := w) (hh := hh) hp hrow (by omega) (by omega) (by omega) (by omega) ls.length 0 H (newBS w hh) _ _ _ _ _ _ _ _ _ _ _ _ _ _ _ _ _ _ _ _ _ _ _ _ _ _ _ _ _ _ _ _ _ _ _ _ _ _ _ _ _ _ _ _ _ _ _ _ _ _ _ _ _ _ _ _ _ _ _ _ _ _ _ _ _ _ _ _ _ _ _ _ _ _ _ _ _ _ _ _ _ _ _ _ _ _ _ _ _ _ _ _ _ _ _ _ _ _ _ _ _ _ _ _ _ _ _ _ _ _ _ _ _ _ _ _ _ _ _ _ _ _ _ _ _ _ _ _ _ _ rfl (by omega) vl ?_ ?_
    · intro H1 b';intros;rename_i hv vl1
      rw [hvn] at hv
      rw [hv] at hr'
      simp only [ne_eq,not_true_eq_false,if_false] at hr'
      have hbw := vl1.bw
      have hbh := vl1.bh
      have lp := blk?_lt vl1.cb.blkp
      have lc := blk?_lt vl1.cb.blkc
      have hvb : VB h H1 (h.length + 2) (h.length + 1) b' (.slice none 0 0) (.slice none 0 0) (valsTo b' 0) (missTo P ls.length b' 0) :=
        ⟨vl1.low,vl1.len,vl1.cb,by simp [valsTo,i64s]; exact OwnS.nil _ _,by simp [missTo,i64s]; exact OwnS.nil _ _,fun id hid => by simp [sid] at hid,fun id hid => by simp [sid] at hid,fun id hid => by simp [sid] at hid⟩
      have fin : ∀ (pl kd : Int),(-1 ≤ pl ∧ pl ≤ 100) → (ls.length ≠ 0 → ∀ t,leftOf P ls.length t = if kd = 2 ∨ t = true then P - 1 - pl else P - pl) → ∀ K4 K5 K6 K7 K8 K9 Ka Kb Ke Kg Kh Ki Km Kn Ko Kp Kq Kr Ks Kt Ku Kv Kw Kx Ky Kz J0 J1 J2 J3 J4 J5 J6 J7 J8 J9 Ja Jb Jc Jd Je Jf Jg Jh Ji Jj Jk Jl Jm Jn Jo Jp Jq Jr Js Jt Ju Jv Jw Jx Jy Jz Y0 Y1 Y2 Y3 Y4 Y5 Y6 Y7 Y8 Y9 Ya Yb Yc Yd Ye Yf Yg Yh Yi Yj Yk Yl Ym Yn Yo Yp Yq Yr Ys Yt Yu Yv Yw Yx Yy Yz Z0 Z1 Z2 Z3 Z4 Z5 Z6 Z7 Z8 Z9 Za Zb Zc Zd Ze Zf Zg Zh Zi Zj Zk Zl Zm Zn Zo Zp Zq Zr Zs Zt Zu Zv : Value,
          Ok tab R30 (.inLoop L30_1 :: .inBlock 2 :: [.code (tlC 8 B30)]) #[s,.int .i64 P,.int .i64 w,.int .i64 hh,K4,K5,K6,K7,K8,K9,Ka,Kb,.slice none 0 0,.slice none 0 0,Ke,ptr (h.length + 2),Kg,Kh,Ki,.int .i64 pl,.int .i64 kd,.int .i64 0,Km,Kn,Ko,Kp,Kq,Kr,Ks,Kt,Ku,Kv,Kw,Kx,Ky,Kz,J0,J1,J2,J3,J4,J5,J6,J7,J8,J9,Ja,Jb,Jc,Jd,Je,Jf,Jg,Jh,Ji,Jj,Jk,Jl,Jm,Jn,Jo,Jp,Jq,Jr,Js,Jt,Ju,Jv,Jw,Jx,Jy,Jz,Y0,Y1,Y2,Y3,Y4,Y5,Y6,Y7,Y8,Y9,Ya,Yb,Yc,Yd,Ye,Yf,Yg,Yh,Yi,Yj,Yk,Yl,Ym,Yn,Yo,Yp,Yq,Yr,Ys,Yt,Yu,Yv,Yw,Yx,Yy,Yz,Z0,Z1,Z2,Z3,Z4,Z5,Z6,Z7,Z8,Z9,Za,Zb,Zc,Zd,Ze,Zf,Zg,Zh,Zi,Zj,Zk,Zl,Zm,Zn,Zo,Zp,Zq,Zr,Zs,Zt,Zu,Zv] H1
            fun v h' => ∃ v1 v2,v = .tuple #[v1,v2,.int .i64 r.1] ∧ VOut h h' v1 v2 r := by
        intro pl kd hpl hl1;intros
        rw [← hbw,← hbh,hs]
        refine valo_loop (P := P) (n := ls.length) (by omega) hpl (by omega) (fun h t => by unfold leftOf; rw [if_pos h]) hl1 ?_ _ 0 _ _ _ _ _ _ _ _ _ _ _ _ _ _ _ _ _ _ _ _ _ _ _ _ _ _ _ _ _ _ _ _ _ _ _ _ _ _ _ _ _ _ _ _ _ _ _ _ _ _ _ _ _ _ _ _ _ _ _ _ _ _ _ _ _ _ _ _ _ _ _ _ _ _ _ _ _ _ _ _ _ _ _ _ _ _ _ _ _ _ _ _ _ _ _ _ _ _ _ _ _ _ _ _ _ _ _ _ _ _ _ _ _ _ _ _ _ _ _ _ _ _ _ _ _ _ _ _ _ _ _ _ _ rfl (Nat.zero_le _) hvb
        intro H' v1' v2';intros;rename_i vb
        have hfl : b'.w * b'.h = b'.cs.length := vl1.cb.ok.len.symm
        have ev : valsTo b' (b'.w * b'.h) = b'.cs.map (·.v) := by unfold valsTo; rw [List.take_of_length_le (by omega)]
        have em : missTo P ls.length b' (b'.w * b'.h) = b'.cs.map fun c => leftOf P ls.length c.t := by unfold missTo; rw [List.take_of_length_le (by omega)]
        rw [ev,em] at vb
        simp [tlC,B30,fin30]
        rw [hr']
        exact ⟨v1',v2',⟨rfl,rfl,rfl⟩,by simpa using vb.o1,by simpa using vb.o2,vb.low,vb.len,fun id hid => hid.elim (fun x => (vb.f1 id x).1) fun x => (vb.f2 id x).1,vb.ne⟩
      simp only [tlC,B30] at fin
      by_cases hn0 : ls.length = 0
      · have hw0 : IntKind.i64.wrap ((ls.length : Int) - 1) = -1 := by rw [hn0]; decide
        have hnn := fun h R => pass_neg1 (h := h) (R := R)
        have f := fin (-1) (-1) (by omega) (fun h => absurd hn0 h)
        rw [hs] at f ⊢
        simp [hw0,hnn]
        exact f ..
      · have hw0 : IntKind.i64.wrap ((ls.length : Int) - 1) = ((ls.length - 1 : Nat) : Int) := by rw [wrapI (by omega) (by omega)]; omega
        have hnn := fun h R => pass_r (h := h) (R := R) (n := ls.length - 1) (by omega)
        have hpo : planeOf (ls.length - 1) ≤ P - 1 := planeOf_le (by omega) (by omega)
        have f := fin (planeOf (ls.length - 1) : Nat) (kindOf (ls.length - 1) : Nat) (by omega) (fun _ t => by
          rw [leftOf_pos hn0]
          by_cases hk : kindOf (ls.length - 1) = 2
          · rw [if_neg (by simp [hk]),if_pos (.inl (by omega))]; omega
          · cases t
            · rw [if_pos (by simp [hk]),if_neg (by simp; omega)]; omega
            · rw [if_neg (by simp),if_pos (.inr rfl)]; omega)
        rw [hs] at f ⊢
        generalize ((planeOf (ls.length - 1) : Nat) : Int) = pl at *
        generalize ((kindOf (ls.length - 1) : Nat) : Int) = kd at *
        generalize ((ls.length - 1 : Nat) : Int) = n1 at *
        simp [hw0,hnn]
        exact f ..
    · intro H1 e he h0 low len
      rw [hvn] at he
      rw [he,if_pos h0] at hr'
      rw [hr']
      exact ⟨_,_,rfl,VOut.bad low len _⟩
  obtain ⟨v,h',e,v1,v2,rfl,rs⟩ := ret_ex key
  exact ⟨v1,v2,h',e,rs⟩
section
variable {h : Heap} {pv dv : Value} {pl : Int} {ps : List Int} {ds : List Nat} {m : MD}
theorem validBlock_c {R : RP} (w hh o : Int) : Ret tab 67 [.int .i64 w,.int .i64 hh,.int .i64 o] h R = R (.int .i64 (if w < 1 ∨ 64 < w ∨ hh < 1 ∨ 64 < hh then 2 else if o < 0 ∨ 3 < o then 3 else 0)) h := by
 rw [enter67,B67]
 by_cases c3 : w < 1
 ·rw [if_pos (.inl c3)]
  simp [k_guard,k_guardU,c3,fin67]
 by_cases c4 : 64 < w
 ·rw [if_pos (.inr (.inl c4))]
  simp [k_guard,k_guardU,c3,c4,fin67]
 by_cases c5 : hh < 1
 ·rw [if_pos (.inr (.inr (.inl c5)))]
  simp [k_guard,k_guardU,c3,c4,c5,fin67]
 by_cases c6 : 64 < hh
 ·rw [if_pos (.inr (.inr (.inr c6)))]
  simp [k_guard,k_guardU,c3,c4,c5,c6,fin67]
 rw [if_neg (by omega)]
 by_cases c7 : o < 0
 ·rw [if_pos (.inl c7)]
  simp [k_guard,k_guardU,c3,c4,c5,c6,c7,fin67]
 by_cases c8 : 3 < o
 ·rw [if_pos (.inr c8)]
  simp [k_guard,k_guardU,c3,c4,c5,c6,c7,c8,fin67]
 rw [if_neg (by omega)]
 simp [k_guard,k_guardU,c3,c4,c5,c6,c7,c8,fin67]
theorem zcheck_c {ds : List Int} (hp : Rk .i64 h pv ps) (hd : Rk .u8 h dv ds) (hl : ps.length < 1000000) (hdl : ds.length < 1000000000) (n w hh o : Int) :
  Gives 29 [.agg #[.int .i64 pl,pv,dv],.int .i64 n,.int .i64 w,.int .i64 hh,.int .i64 o,m.val] h (.int .i64 (checkP pl ps ds n w hh o)) := by
 refine Gives.mk fun R0 hR => ?_
 generalize hH : h ++ [some (⟨false,[.int .i64 pl,pv,dv]⟩ : Blk),some ⟨false,[.bool m.byp,.bool m.res,.bool m.rst,.bool m.cz,.bool m.sy]⟩] = H
 have lH : H.length = h.length + 2 := by rw [← hH]; simp
 have b0 : blk? H h.length = some ⟨false,[.int .i64 pl,pv,dv]⟩ := by rw [← hH,app_len]; rfl
 have b1 : blk? H (h.length + 1) = some ⟨false,[.bool m.byp,.bool m.res,.bool m.rst,.bool m.cz,.bool m.sy]⟩ := by rw [← hH,app_add]; rfl
 have hpH : Rk .i64 H pv ps := by rw [← hH]; exact hp.push _
 have hdH : Rk .u8 H dv ds := by rw [← hH]; exact hd.push _
 obtain ⟨H1,e1,k1,l1⟩ := valid_r (m := m) (pl := pl) hpH hdH hl hdl
 have b01 : blk? H1 h.length = some ⟨false,[.int .i64 pl,pv,dv]⟩ := by rw [k1 _ (by omega)]; exact b0
 have hR' := hR H1 (fun id hid => by rw [k1 id (by omega),← hH]; exact app_lt hid) (by omega)
 clear hR
 obtain ⟨pa,pc,hpv⟩ := hp.sl.shape
 simp only [MD.val] at e1
 unfold checkP at hR'
 have eb := fun R => validBlock_c (h := H1) (R := R) w hh o
 rw [enter29,B29]
 by_cases v0 : validP pl ps ds = 0
 case neg =>
  have v0' : (validP pl ps ds != 0) = true := by simpa using v0
  rw [if_pos v0] at hR'
  simp [k_guard,k_guardU,MD.val,hH,b0,b1,e1,v0',fin29]
  exact hR'
 have v0' : (validP pl ps ds != 0) = false := by simpa using v0
 rw [if_neg (by simp [v0])] at hR'
 rw [hpv] at hH b0 b01 e1
 rw [hpv]
 by_cases c1 : n < 0
 ·rw [if_pos (.inl c1)] at hR'
  simp [k_guard,k_guardU,MD.val,hH,b0,b1,e1,v0',c1,fin29]
  exact hR'
 by_cases c2 : (ps.length : Int) < n
 ·rw [if_pos (.inr (.inl c2))] at hR'
  simp [k_guard,k_guardU,MD.val,hH,b0,b1,e1,v0',b01,c1,c2,fin29]
  exact hR'
 have ee : (if n < 0 ∨ (ps.length : Int) < n ∨ w < 1 ∨ 64 < w ∨ hh < 1 ∨ 64 < hh then (2 : Int) else if o < 0 ∨ 3 < o then 3 else 0) = if w < 1 ∨ 64 < w ∨ hh < 1 ∨ 64 < hh then 2 else if o < 0 ∨ 3 < o then 3 else 0 := by
  by_cases hc : w < 1 ∨ 64 < w ∨ hh < 1 ∨ 64 < hh
  ·rw [if_pos hc,if_pos (.inr (.inr hc))]
  ·rw [if_neg hc,if_neg (by omega)]
 rw [ee] at hR'
 generalize (if w < 1 ∨ 64 < w ∨ hh < 1 ∨ 64 < hh then (2 : Int) else if o < 0 ∨ 3 < o then 3 else 0) = X at *
 simp [k_guard,k_guardU,MD.val,hH,b0,b1,e1,v0',b01,c1,c2,eb,fin29]
 exact hR'
theorem zreadC {n w hh o : Int} (hp : Rk .i64 h pv ps) (hd : Rk .u8 h dv (ds.map Int.ofNat)) (hds : ∀ x ∈ ds,x < 256) (hc : checkP pl ps (ds.map Int.ofNat) n w hh o = 0) :
  ∃ lv h',(∀ R : RP,Ret tab 31 [.agg #[.int .i64 pl,pv,dv],.int .i64 n,.int .i64 w,.int .i64 hh,.int .i64 o,m.val] h R = R lv h') ∧
   RdV h.length h' lv (readP m pl o ps ds n.toNat w.toNat hh.toNat).ls ∧ (∀ id,id < h.length → blk? h' id = blk? h id) ∧ h.length ≤ h'.length := by
 obtain ⟨hv,n0,n1,w1,w2,h1,h2,o0,o1⟩ := check_ok hc
 obtain ⟨p0,p1,p2,_,p4⟩ := valid_ends hv
 obtain ⟨z0,z1⟩ := valid_zE hv
 simp only [List.length_map] at z1 p4
 obtain ⟨n,rfl⟩ := Int.eq_ofNat_of_zero_le n0
 obtain ⟨w,rfl⟩ := Int.eq_ofNat_of_zero_le (show 0 ≤ w by omega)
 obtain ⟨hh,rfl⟩ := Int.eq_ofNat_of_zero_le (show 0 ≤ hh by omega)
 simp only [Int.toNat_natCast]
 exact zsyms_c m hp hd z0 z1 (by omega) hds (by omega) (by omega) (by omega) (by omega) (by omega) (by omega)
theorem decode_z {n w hh o : Int} (hp : Rk .i64 h pv ps) (hd : Rk .u8 h dv (ds.map Int.ofNat)) (hds : ∀ x ∈ ds,x < 256) (hl : ps.length < 1000000) (hdl : ds.length < 1000000000) :
  ∃ v1 v2 h',(∀ R : RP,Ret tab 12 [.agg #[.int .i64 pl,pv,dv],.int .i64 n,.int .i64 w,.int .i64 hh,.int .i64 o,m.val] h R = R (.tuple #[v1,v2,.int .i64 (decP m pl ps ds n w hh o).1]) h') ∧ VOut h h' v1 v2 (decP m pl ps ds n w hh o) := by
 have key : ∀ R0 : RP,(∀ v1 v2 h',VOut h h' v1 v2 (decP m pl ps ds n w hh o) → R0 (.tuple #[v1,v2,.int .i64 (decP m pl ps ds n w hh o).1]) h') → Ret tab 12 [.agg #[.int .i64 pl,pv,dv],.int .i64 n,.int .i64 w,.int .i64 hh,.int .i64 o,m.val] h R0 := by
  intro R0 hR
  generalize hH : h ++ [some (⟨false,[.int .i64 pl,pv,dv]⟩ : Blk),some ⟨false,[.bool m.byp,.bool m.res,.bool m.rst,.bool m.cz,.bool m.sy]⟩] = H
  have lH : H.length = h.length + 2 := by rw [← hH]; simp
  have kH : ∀ id,id < h.length → blk? H id = blk? h id := fun id hid => by rw [← hH]; exact app_lt hid
  have b0 : blk? H h.length = some ⟨false,[.int .i64 pl,pv,dv]⟩ := by rw [← hH,app_len]; rfl
  have b1 : blk? H (h.length + 1) = some ⟨false,[.bool m.byp,.bool m.res,.bool m.rst,.bool m.cz,.bool m.sy]⟩ := by rw [← hH,app_add]; rfl
  have hpH : Rk .i64 H pv ps := by rw [← hH]; exact hp.push _
  have hdH : Rk .u8 H dv (ds.map Int.ofNat) := by rw [← hH]; exact hd.push _
  obtain ⟨H1,e1,k1,l1⟩ := zcheck_c (m := m) (pl := pl) hpH hdH hl (by rw [List.length_map]; exact hdl) n w hh o
  have b01 : blk? H1 h.length = some ⟨false,[.int .i64 pl,pv,dv]⟩ := by rw [k1 _ (by omega)]; exact b0
  have b11 : blk? H1 (h.length + 1) = some ⟨false,[.bool m.byp,.bool m.res,.bool m.rst,.bool m.cz,.bool m.sy]⟩ := by rw [k1 _ (by omega)]; exact b1
  simp only [MD.val] at e1
  rw [enter12,B12]
  by_cases hc : checkP pl ps (ds.map Int.ofNat) n w hh o = 0
  case neg =>
   have hc' : (checkP pl ps (ds.map Int.ofNat) n w hh o != 0) = true := by simpa using hc
   have e : decP m pl ps ds n w hh o = (checkP pl ps (ds.map Int.ofNat) n w hh o,[],[]) := by unfold decP; rw [if_pos hc]
   rw [e] at hR
   simp [MD.val,hH,b0,b1,e1,hc',fin12]
   exact hR _ _ _ (VOut.bad (fun id hid => by rw [k1 id (by omega),kH id hid]) (by omega) _)
  have hc' : (checkP pl ps (ds.map Int.ofNat) n w hh o != 0) = false := by simpa using hc
  have e : decP m pl ps ds n w hh o = valRes ((readP m pl o ps ds n.toNat w.toNat hh.toNat).ls.map toI) pl w hh o m := by unfold decP; rw [if_neg (by simp [hc])]
  rw [e] at hR
  obtain ⟨hv,_⟩ := check_ok hc
  obtain ⟨p0,p1,p2,_,p4⟩ := valid_ends hv
  have hp1 : Rk .i64 H1 pv ps := hpH.keep l1 fun id hid _ => k1 id hid
  have hd1 : Rk .u8 H1 dv (ds.map Int.ofNat) := hdH.keep l1 fun id hid _ => k1 id hid
  obtain ⟨lv,H2,e2,r2,k2,l2⟩ := zreadC (m := m) hp1 hd1 hds hc
  obtain ⟨vs,q2⟩ := r2.psI
  obtain ⟨vs',_,_,_,hsm⟩ := r2.ex
  have b02 : blk? H2 h.length = some ⟨false,[.int .i64 pl,pv,dv]⟩ := by rw [k2 _ (by omega)]; exact b01
  have b12 : blk? H2 (h.length + 1) = some ⟨false,[.bool m.byp,.bool m.res,.bool m.rst,.bool m.cz,.bool m.sy]⟩ := by rw [k2 _ (by omega)]; exact b11
  have hlen : (readP m pl o ps ds n.toNat w.toNat hh.toNat).ls.length < 100000 := by
   obtain ⟨_,c1,c2,_⟩ := check_ok hc
   rw [readP_len m pl o ps ds (by omega)]; omega
  obtain ⟨v1,v2,H3,e3,V3⟩ := values_q q2 (by simpa using hlen) (fun l hl => by
   obtain ⟨l',hl',rfl⟩ := List.mem_map.1 hl
   have := hsm l' hl'
   simp [toI]; omega) pl w hh o (by omega) m
  simp only [MD.val] at e2 e3
  simp [book,bookU,logOf,addLog,chk1,lookL,reload,veq,MD.val,hH,b0,b1,e1,hc',b01,b11,e2,b02,b12,e3,fin12]
  exact hR _ _ _ ⟨V3.o1,V3.o2,fun id hid => by rw [V3.low id (by omega),k2 id (by omega),k1 id (by omega),kH id hid],by have := V3.len; omega,fun id hid => by have := V3.fr id hid; omega,V3.ne⟩
 obtain ⟨v,h',e,v1,v2,rfl,a⟩ := ret_ex (key (fun v h' => ∃ v1 v2,v = .tuple #[v1,v2,.int .i64 (decP m pl ps ds n w hh o).1] ∧ VOut h h' v1 v2 (decP m pl ps ds n w hh o)) fun v1 v2 h' a => ⟨v1,v2,rfl,a⟩)
 exact ⟨v1,v2,h',e,a⟩
end
theorem take_snoc {l : List Int} {i : Nat} (hi : i < l.length) : l.take i ++ [l[i]] = l.take (i + 1) := (List.take_succ_eq_append_getElem hi).symm
section
variable {R : RP}
theorem aftr_loop {vs ks : List Int} {a b wt s : Int} (hl : ks.length = vs.length) (hN : vs.length ≤ 4096) (hv : ∀ v ∈ vs,-1152921504606846976 < v ∧ v < 1152921504606846976) {h0 : Heap} {v1 v2 p0 : Value} (q1 : OwnS h0 1 v1 vs.length (i64s vs)) (q2 : OwnS h0 1 v2 vs.length (i64s ks))
  {X : Nat} (hX : blk? h0 X = some ⟨false,[.int .i64 a,.int .i64 b,.int .i64 wt,.int .i64 s]⟩) {K : List RItem}
  (hK : ∀ (H : Heap) (av bv : Value) (K1 K2 K3 K4 K5 K6 K7 K8 K9 Ka Kb Kc Kd Ke Kg Kh Ki Kj Kk Kn Ko Kp Kq Kr Ks Kt Ku Kv Kw Kx Ky Kz J0 J1 J2 J3 J4 J5 J6 J7 J8 J9 Ja Jb Jc Jd Je Jf Jg Jh Ji Jj Jk Jl Jm Jn Jo Jp Jq Jr Js Jt Ju Jv Jw Jx Jy Jz Y0 Y1 Y2 Y3 Y4 Y5 Y6 Y7 : Value),OwnS H 1 av vs.length (i64s (uv s vs ks)) → OwnS H 1 bv vs.length (i64s (uk s vs ks)) → (∀ id,id < h0.length → blk? H id = blk? h0 id) → h0.length ≤ H.length →
   Ok tab R54 K #[p0,K1,K2,K3,K4,K5,K6,K7,K8,K9,Ka,Kb,Kc,Kd,Ke,ptr X,Kg,Kh,Ki,Kj,Kk,av,bv,Kn,Ko,Kp,Kq,Kr,Ks,Kt,Ku,Kv,Kw,Kx,Ky,Kz,J0,J1,J2,J3,J4,J5,J6,J7,J8,J9,Ja,Jb,Jc,Jd,Je,Jf,Jg,Jh,Ji,Jj,Jk,Jl,Jm,Jn,Jo,Jp,Jq,Jr,Js,Jt,Ju,Jv,Jw,Jx,Jy,Jz,Y0,Y1,Y2,Y3,Y4,Y5,Y6,Y7] H R) :
  ∀ (j i : Nat) (H : Heap) (av bv : Value) (r d : List Int) (K1 K2 K3 K4 K5 K6 K7 K8 K9 Ka Kb Kc Kd Ke Kg Kh Kk Ko Kp Kq Kr Ks Kt Ku Kv Kw Kx Ky Kz J0 J1 J2 J3 J4 J5 J6 J7 J8 J9 Ja Jb Jc Jd Je Jf Jg Jh Ji Jj Jk Jl Jm Jn Jo Jp Jq Jr Js Jt Ju Jv Jw Jx Jy Jz Y0 Y1 Y2 Y3 Y4 Y5 Y6 Y7 : Value),i + j = vs.length → r = (uv s vs ks).take i → d = (uk s vs ks).take i → OwnS H 1 av r.length (i64s r) → OwnS H 1 bv d.length (i64s d) →
   (∀ id,sid av = some id → h0.length ≤ id) → (∀ id,sid bv = some id → h0.length ≤ id) → (∀ id,sid av = some id → sid bv ≠ some id) → (∀ id,id < h0.length → blk? H id = blk? h0 id) → h0.length ≤ H.length →
   Ok tab R54 (.inLoop L54_0 :: .inBlock 0 :: K) #[p0,K1,K2,K3,K4,K5,K6,K7,K8,K9,Ka,Kb,Kc,Kd,Ke,ptr X,Kg,Kh,v1,v2,Kk,av,bv,.int .i64 (i : Nat),Ko,Kp,Kq,Kr,Ks,Kt,Ku,Kv,Kw,Kx,Ky,Kz,J0,J1,J2,J3,J4,J5,J6,J7,J8,J9,Ja,Jb,Jc,Jd,Je,Jf,Jg,Jh,Ji,Jj,Jk,Jl,Jm,Jn,Jo,Jp,Jq,Jr,Js,Jt,Ju,Jv,Jw,Jx,Jy,Jz,Y0,Y1,Y2,Y3,Y4,Y5,Y6,Y7] H R := by
 obtain ⟨ul1,ul2⟩ := uv_len s vs ks hl
 obtain ⟨va,vc,hv1⟩ := q1.sl.shape
 intro j
 induction j with
 | zero =>
  intro i H av bv r d;intros;rename_i hi hr hd o1 o2 f1 f2 ne low len
  obtain rfl : i = vs.length := by omega
  rw [← ul1,List.take_length] at hr
  rw [← ul2,List.take_length] at hd
  subst hr; subst hd
  rw [ul1] at o1
  rw [ul2] at o2
  rw [ok_round,l54_0,L54_0a,L54_0b]
  simp [hv1]
  exact hK H av bv _ _ _ _ _ _ _ _ _ _ _ _ _ _ _ _ _ _ _ _ _ _ _ _ _ _ _ _ _ _ _ _ _ _ _ _ _ _ _ _ _ _ _ _ _ _ _ _ _ _ _ _ _ _ _ _ _ _ _ _ _ _ _ _ _ _ _ _ _ _ _ _ _ _ _ _ o1 o2 low len
 | succ j ih =>
  intro i H av bv r d;intros;rename_i hi hr hd o1 o2 f1 f2 ne low len
  have hil : i < vs.length := by omega
  have hlt : (i : Int) < (vs.length : Int) := by omega
  have hw : IntKind.i64.wrap ((i : Int) + 1) = ((i + 1 : Nat) : Int) := wrapN (n := i + 1) (by omega)
  have hv0 := hv vs[i] (List.getElem_mem hil)
  have hu := fun (H : Heap) R => uns_r (h := H) (R := R) (v := vs[i]) (m := ks[i]) (s := s) (by omega) (by omega)
  obtain ⟨g1,g2⟩ := uv_get s vs ks hl hil
  have lr : r.length = i := by rw [hr,List.length_take]; omega
  have ld : d.length = i := by rw [hd,List.length_take]; omega
  have hr' : r ++ [(unsP vs[i] ks[i] s).1] = (uv s vs ks).take (i + 1) := by rw [hr,← g1]; exact take_snoc _
  have hd' : d ++ [(unsP vs[i] ks[i] s).2] = (uk s vs ks).take (i + 1) := by rw [hd,← g2]; exact take_snoc _
  obtain ⟨i1,rfl,hb1⟩ := q1.ne_nil (by omega)
  obtain ⟨i2,rfl,hb2⟩ := q2.ne_nil (by omega)
  have hb1' : blk? H i1 = some ⟨false,i64s vs⟩ := by rw [low _ (blk?_lt hb1)]; exact hb1
  have hb2' : blk? H i2 = some ⟨false,i64s ks⟩ := by rw [low _ (blk?_lt hb2)]; exact hb2
  have hX' : blk? H X = some ⟨false,[.int .i64 a,.int .i64 b,.int .i64 wt,.int .i64 s]⟩ := by rw [low _ (blk?_lt hX)]; exact hX
  have c1 : (i64s vs)[i]? = some (.int .i64 vs[i]) := by unfold i64s; rw [List.getElem?_map,List.getElem?_eq_getElem hil]; rfl
  have c2 : (i64s ks)[i]? = some (.int .i64 (ks[i]'(by omega))) := by unfold i64s; rw [List.getElem?_map,List.getElem?_eq_getElem (by omega)]; rfl
  obtain ⟨Ha,a1,oa,la,ka⟩ := cu_app o1 (by omega) (unsP vs[i] ks[i] s).1
  have o2a : OwnS Ha 1 bv d.length (i64s d) := own_lv o2 fun id hid => ka id (o2.lt hid) fun e => ne id e hid
  obtain ⟨Hb,a2,ob,lb,kb⟩ := cu_app o2a (by omega) (unsP vs[i] ks[i] s).2
  have oa' : OwnS Hb 1 (.slice (some ⟨H.length + 1,0,none⟩) (r.length + 1) 1) (r ++ [(unsP vs[i] ks[i] s).1]).length (i64s (r ++ [(unsP vs[i] ks[i] s).1])) := own_lv oa fun id hid => by
   simp [sid] at hid
   exact kb id (by omega) fun e => by have := o2.lt e; omega
  have ih' := fun K1 K2 K3 K4 K5 K6 K7 K8 K9 Ka Kb Kc Kd Ke Kg Kh Kk Ko Kp Kq Kr Ks Kt Ku Kv Kw Kx Ky Kz J0 J1 J2 J3 J4 J5 J6 J7 J8 J9 Ja Jb Jc Jd Je Jf Jg Jh Ji Jj Jk Jl Jm Jn Jo Jp Jq Jr Js Jt Ju Jv Jw Jx Jy Jz Y0 Y1 Y2 Y3 Y4 Y5 Y6 Y7 => ih (i + 1) Hb _ _ _ _ K1 K2 K3 K4 K5 K6 K7 K8 K9 Ka Kb Kc Kd Ke Kg Kh Kk Ko Kp Kq Kr Ks Kt Ku Kv Kw Kx Ky Kz J0 J1 J2 J3 J4 J5 J6 J7 J8 J9 Ja Jb Jc Jd Je Jf Jg Jh Ji Jj Jk Jl Jm Jn Jo Jp Jq Jr Js Jt Ju Jv Jw Jx Jy Jz Y0 Y1 Y2 Y3 Y4 Y5 Y6 Y7 (by omega) hr' hd' oa' ob
   (fun id hid => by simp [sid] at hid; omega) (fun id hid => by simp [sid] at hid; omega) (fun id hid => by simp [sid] at hid ⊢; omega)
   (fun id hid => by
    rw [kb id (by omega) (fun e => by have := f2 id e; omega),ka id (by omega) (fun e => by have := f1 id e; omega),low id hid]) (by omega)
  have d1 := get_of c1
  have d2 := get_of c2
  have t1 : i < (i64s vs).length := by rw [i64L]; omega
  have t2 : i < (i64s ks).length := by rw [i64L]; omega
  clear ih hr' hd' hr hd g1 g2 oa ob oa' o1 o2 o2a
  generalize ((i + 1 : Nat) : Int) = ii at *
  generalize (unsP vs[i] ks[i] s).1 = x1 at *
  generalize (unsP vs[i] ks[i] s).2 = x2 at *
  generalize vs[i] = u1 at *
  generalize ks[i] = u2 at *
  generalize i64s vs = C1 at *
  generalize i64s ks = C2 at *
  rw [ok_round,l54_0,L54_0a,L54_0b]
  simp [hlt,hb1',hb2',c1,c2,d1,d2,t1,t2,hX',hu,repL,a1,a2,hw]
  exact ih' ..
end
section
variable {h : Heap} {cv pv dv : Value} {pl w hh o a b wt s : Int} {m : MD} {ps cs : List Int} {ds : List Nat}
theorem after_r (n : Nat) (hp : Rk .i64 h pv ps) (hd : Rk .u8 h dv (ds.map Int.ofNat)) (hc : Rk .i64 h cv cs) (hds : ∀ x ∈ ds,x < 256) (hl : ps.length < 1000000) (hdl : ds.length < 1000000000) :
  Gives 54 [cv,.agg #[.int .i64 pl,pv,dv],.int .i64 (n : Nat),.int .i64 w,.int .i64 hh,.int .i64 o,m.val,.agg #[.int .i64 a,.int .i64 b,.int .i64 wt,.int .i64 s]] h (.tuple #[.int .i64 (aftP m pl ps ds w hh o cs a b wt s n).1,.int .i64 (aftP m pl ps ds w hh o cs a b wt s n).2]) := by
 refine Gives.mk fun R0 hR => ?_
 generalize hH : h ++ [some (⟨false,[.int .i64 pl,pv,dv]⟩ : Blk),some ⟨false,[.bool m.byp,.bool m.res,.bool m.rst,.bool m.cz,.bool m.sy]⟩,some ⟨false,[.int .i64 a,.int .i64 b,.int .i64 wt,.int .i64 s]⟩] = H
 have lH : H.length = h.length + 3 := by rw [← hH]; simp
 have kH : ∀ id,id < h.length → blk? H id = blk? h id := fun id hid => by rw [← hH]; exact app_lt hid
 have b0 : blk? H h.length = some ⟨false,[.int .i64 pl,pv,dv]⟩ := by rw [← hH,app_len]; rfl
 have b1 : blk? H (h.length + 1) = some ⟨false,[.bool m.byp,.bool m.res,.bool m.rst,.bool m.cz,.bool m.sy]⟩ := by rw [← hH,app_add]; rfl
 have b2 : blk? H (h.length + 2) = some ⟨false,[.int .i64 a,.int .i64 b,.int .i64 wt,.int .i64 s]⟩ := by rw [← hH,app_add]; rfl
 have hpH : Rk .i64 H pv ps := by rw [← hH]; exact hp.push _
 have hdH : Rk .u8 H dv (ds.map Int.ofNat) := by rw [← hH]; exact hd.push _
 have hcH : Rk .i64 H cv cs := by rw [← hH]; exact hc.push _
 obtain ⟨v1,v2,H1,e1,V⟩ := decode_z (m := m) (pl := pl) (n := (n : Int)) (w := w) (hh := hh) (o := o) hpH hdH hds hl hdl
 obtain ⟨q1,q2,q3⟩ := decP_rng m pl ps ds (n : Int) w hh o
 obtain ⟨q4,_⟩ := decP_len m pl ps ds (n : Int) w hh o
 have hc1 : Rk .i64 H1 cv cs := hcH.keep V.len fun id hid _ => V.low id hid
 have lo := V.low
 have le := V.len
 have o1 := V.o1
 have o2 := V.o2
 have d2 : blk? H1 (h.length + 2) = some ⟨false,[.int .i64 a,.int .i64 b,.int .i64 wt,.int .i64 s]⟩ := by rw [lo _ (by omega)]; exact b2
 unfold aftP at hR
 clear V
 generalize decP m pl ps ds (n : Int) w hh o = r at *
 obtain ⟨r0,vs,ks⟩ := r
 simp only at e1 q1 q2 q3 q4 hR o1 o2
 simp only [MD.val] at e1
 rw [enter54,show B54 = .seq (nthC 0 B54) (.seq (nthC 1 B54) (.seq (nthC 2 B54) (.seq (nthC 3 B54) (.seq (nthC 4 B54) (tlC 5 B54))))) from rfl]
 generalize hT : tlC 5 B54 = tl
 simp only [nthC,tlC,fstC,B54]
 by_cases h0 : r0 = 0
 case neg =>
  have h0' : (r0 != 0) = true := by simpa using h0
  rw [if_pos h0] at hR
  simp [MD.val,hH,b0,b1,e1,h0',fin54]
  exact hR H1 (fun id hid => by rw [lo id (by omega),kH id hid]) (by omega)
 rw [if_neg (by simp [h0])] at hR
 subst h0
 obtain ⟨ul1,ul2⟩ := uv_len s vs ks q1
 obtain ⟨w1,w2⟩ := uv_wf s q1 q2 q3
 rw [q1] at o2
 have hL := fun K1 K2 K3 K4 K5 K6 K7 K8 K9 Ka Kb Kc Kd Ke Kg Kh Kk Ko Kp Kq Kr Ks Kt Ku Kv Kw Kx Ky Kz J0 J1 J2 J3 J4 J5 J6 J7 J8 J9 Ja Jb Jc Jd Je Jf Jg Jh Ji Jj Jk Jl Jm Jn Jo Jp Jq Jr Js Jt Ju Jv Jw Jx Jy Jz Y0 Y1 Y2 Y3 Y4 Y5 Y6 Y7 => aftr_loop (R := R0) (vs := vs) (ks := ks) (a := a) (b := b) (wt := wt) (s := s) (p0 := cv) (K := [.code tl]) q1 q4 q2 (h0 := H1) (v1 := v1) (v2 := v2) o1 o2 (X := h.length + 2) d2
  (fun G av bv K1 K2 K3 K4 K5 K6 K7 K8 K9 Ka Kb Kc Kd Ke Kg Kh Ki Kj Kk Kn Ko Kp Kq Kr Ks Kt Ku Kv Kw Kx Ky Kz J0 J1 J2 J3 J4 J5 J6 J7 J8 J9 Ja Jb Jc Jd Je Jf Jg Jh Ji Jj Jk Jl Jm Jn Jo Jp Jq Jr Js Jt Ju Jv Jw Jx Jy Jz Y0 Y1 Y2 Y3 Y4 Y5 Y6 Y7 O1 O2 low len => by
   have hcG : Rk .i64 G cv cs := hc1.keep len fun id hid _ => low id hid
   have below_of : ∀ {v : Value} {N : Nat} {xs : List Value},OwnS G 1 v N xs → below G.length v = true := fun {v N xs} ho => by
    rcases ho.2 with ⟨rfl,_⟩ | ⟨id,rfl,hb⟩
    ·simp
    ·have := blk?_lt hb; simp; exact this
   have R1 : Rk .i64 G av (uv s vs ks) := Rk.own (by rw [ul1]; exact O1) (below_of O1) w1
   have R2 : Rk .i64 G bv (uk s vs ks) := Rk.own (by rw [ul2]; exact O2) (below_of O2) w2
   have et := fun R => total_r (R := R) hcG R1 R2 (a := a) (b := b) (w := wt)
   have g2 : blk? G (h.length + 2) = some ⟨false,[.int .i64 a,.int .i64 b,.int .i64 wt,.int .i64 s]⟩ := by rw [low _ (by omega)]; exact d2
   have hR' := hR G (fun id hid => by rw [low id (by omega),lo id (by omega),kH id hid]) (by omega)
   rw [← hT]
   simp only [nthC,tlC,fstC,B54]
   generalize totRes a b wt cs (uv s vs ks) (uk s vs ks) = z at *
   simp [g2,et,fin54]
   exact hR')
  vs.length 0 H1 (.slice none 0 0) (.slice none 0 0) [] [] K1 K2 K3 K4 K5 K6 K7 K8 K9 Ka Kb Kc Kd Ke Kg Kh Kk Ko Kp Kq Kr Ks Kt Ku Kv Kw Kx Ky Kz J0 J1 J2 J3 J4 J5 J6 J7 J8 J9 Ja Jb Jc Jd Je Jf Jg Jh Ji Jj Jk Jl Jm Jn Jo Jp Jq Jr Js Jt Ju Jv Jw Jx Jy Jz Y0 Y1 Y2 Y3 Y4 Y5 Y6 Y7 (by omega) (by rw [List.take_zero]) (by rw [List.take_zero]) (OwnS.nil _ _) (OwnS.nil _ _) (fun id hid => by simp [sid] at hid) (fun id hid => by simp [sid] at hid) (fun id hid => by simp [sid] at hid) (fun id _ => rfl) (Nat.le_refl _)
 obtain ⟨va,vc,hv1⟩ := o1.sl.shape
 simp only [Int.cast_ofNat_Int] at hL
 simp [MD.val,hH,b0,b1,e1]
 exact hL ..
end
section
variable {R : RP} {hB : Heap} {B O : Nat} {cv pv dv : Value} {pl w hh o a b wt s : Int} {m : MD} {ps : List Int} {aft : Nat → Int × Int} {fin : Int × List Int × List Int} {K : List RItem}
theorem cur_loop (hp : Rk .i64 hB pv ps) (hpO : sid pv ≠ some O) (b0 : blk? hB B = some ⟨false,[.int .i64 pl,pv,dv]⟩) (n0 : B ≠ O) (b1 : blk? hB (B + 1) = some ⟨false,[.bool m.byp,.bool m.res,.bool m.rst,.bool m.cz,.bool m.sy]⟩) (n1 : B + 1 ≠ O) (b10 : blk? hB (B + 2) = some ⟨false,[.slice none 0 0,.slice none 0 0]⟩) (n10 : B + 2 ≠ O) (hl : ps.length < 90000)
  (hA : ∀ (n : Nat) (H : Heap),n ≤ ps.length → (∀ id,id < hB.length → id ≠ O → blk? H id = blk? hB id) → hB.length ≤ H.length → ∃ H',(∀ R : RP,Ret tab 54 [cv,.agg #[.int .i64 pl,pv,dv],.int .i64 (n : Nat),.int .i64 w,.int .i64 hh,.int .i64 o,.agg #[.bool m.byp,.bool m.res,.bool m.rst,.bool m.cz,.bool m.sy],.agg #[.int .i64 a,.int .i64 b,.int .i64 wt,.int .i64 s]] H R = R (.tuple #[.int .i64 (aft n).1,.int .i64 (aft n).2]) H') ∧ (∀ id,id < H.length → blk? H' id = blk? H id) ∧ H.length ≤ H'.length)
  (hK : ∀ (H : Heap) (rv ev : Value) (r d : List Int) (K0 K1 K2 K3 K4 K5 K6 K7 K8 K9 Ka Kb Kc Kd Ke Kf Kg Kh Ki Kj Kl Km Kn Ko Kq Kr Ks Kt Ku Kv Kw Kx Ky Kz J0 J1 J2 J3 J4 J5 J6 J7 J8 J9 Ja Jb Jc Jd Je Jf Jg Jh Ji Jj Jk Jl Jm Jn Jo Jp Jq Jr Js Jt Ju Jv Jw Jx Jy Jz Y0 Y1 Y2 Y3 Y4 Y5 Y6 Y7 Y8 Y9 Ya Yb Yc Yd Ye Yf Yg Yh Yi Yj Yk Yl Ym Yn Yo Yp Yq Yr Ys Yt Yu Yv Yw Yx Yy Yz Z0 Z1 Z2 Z3 Z4 Z5 Z6 Z7 Z8 Z9 Za Zb : Value),CuI hB H O rv ev r d → fin = (0,r,d) → Ok tab R23 K #[K0,K1,K2,K3,K4,K5,K6,K7,K8,K9,Ka,Kb,Kc,Kd,Ke,Kf,Kg,Kh,Ki,Kj,ptr (B + 2),Kl,Km,Kn,Ko,ptr O,Kq,Kr,Ks,Kt,Ku,Kv,Kw,Kx,Ky,Kz,J0,J1,J2,J3,J4,J5,J6,J7,J8,J9,Ja,Jb,Jc,Jd,Je,Jf,Jg,Jh,Ji,Jj,Jk,Jl,Jm,Jn,Jo,Jp,Jq,Jr,Js,Jt,Ju,Jv,Jw,Jx,Jy,Jz,Y0,Y1,Y2,Y3,Y4,Y5,Y6,Y7,Y8,Y9,Ya,Yb,Yc,Yd,Ye,Yf,Yg,Yh,Yi,Yj,Yk,Yl,Ym,Yn,Yo,Yp,Yq,Yr,Ys,Yt,Yu,Yv,Yw,Yx,Yy,Yz,Z0,Z1,Z2,Z3,Z4,Z5,Z6,Z7,Z8,Z9,Za,Zb] H R)
  (hE : ∀ (H : Heap) (e : Int),fin = (e,[],[]) → (∀ id,id < hB.length → id ≠ O → blk? H id = blk? hB id) → hB.length ≤ H.length → R (.tuple #[.agg #[.slice none 0 0,.slice none 0 0],.int .i64 e]) H) :
  ∀ (k n : Nat) (H : Heap) (rv ev : Value) (r d : List Int) (K1 K5 Ka Kc Kd Ke Kg Kh Ki Kj Kl Km Kn Ko Kr Ks Kt Ku Kv Kw Kx Ky Kz J0 J1 J2 J3 J4 J5 J6 J7 J8 J9 Ja Jb Jc Jd Je Jf Jg Jh Ji Jj Jk Jl Jm Jn Jo Jp Jq Jr Js Jt Ju Jv Jw Jx Jy Jz Y0 Y1 Y2 Y3 Y4 Y5 Y6 Y7 Y8 Y9 Ya Yb Yc Yd Ye Yf Yg Yh Yi Yj Yk Yl Ym Yn Yo Yp Yq Yr Ys Yt Yu Yv Yw Yx Yy Yz Z0 Z1 Z2 Z3 Z4 Z5 Z6 Z7 Z8 Z9 Za Zb : Value),n + k = ps.length + 1 → CuI hB H O rv ev r d → r.length = n → d.length = n → cLoop aft ps k n r d = fin →
   Ok tab R23 (.inLoop L23_0 :: .inBlock 0 :: K) #[cv,K1,.int .i64 w,.int .i64 hh,.int .i64 o,K5,.int .i64 a,.int .i64 b,.int .i64 wt,.int .i64 s,Ka,ptr B,Kc,Kd,Ke,ptr (B + 1),Kg,Kh,Ki,Kj,ptr (B + 2),Kl,Km,Kn,Ko,ptr O,.int .i64 (n : Nat),Kr,Ks,Kt,Ku,Kv,Kw,Kx,Ky,Kz,J0,J1,J2,J3,J4,J5,J6,J7,J8,J9,Ja,Jb,Jc,Jd,Je,Jf,Jg,Jh,Ji,Jj,Jk,Jl,Jm,Jn,Jo,Jp,Jq,Jr,Js,Jt,Ju,Jv,Jw,Jx,Jy,Jz,Y0,Y1,Y2,Y3,Y4,Y5,Y6,Y7,Y8,Y9,Ya,Yb,Yc,Yd,Ye,Yf,Yg,Yh,Yi,Yj,Yk,Yl,Ym,Yn,Yo,Yp,Yq,Yr,Ys,Yt,Yu,Yv,Yw,Yx,Yy,Yz,Z0,Z1,Z2,Z3,Z4,Z5,Z6,Z7,Z8,Z9,Za,Zb] H R := by
 intro k
 induction k with
 | zero =>
  intro n H rv ev r d;intros;rename_i hn I hr hd hF
  obtain rfl : n = ps.length + 1 := by omega
  simp only [cLoop] at hF
  have d0 : blk? H B = some ⟨false,[.int .i64 pl,pv,dv]⟩ := by rw [I.low _ (blk?_lt b0) n0]; exact b0
  obtain ⟨pa,pc,hpv⟩ := hp.sl.shape
  rw [hpv] at d0
  have hnle : ¬ ((ps.length + 1 : Nat) : Int) ≤ (ps.length : Int) := by omega
  generalize ((ps.length + 1 : Nat) : Int) = pi at *
  rw [ok_round,l23_0,L23_0a,L23_0b]
  simp [d0,hnle]
  exact hK H rv ev r d _ _ _ _ _ _ _ _ _ _ _ _ _ _ _ _ _ _ _ _ _ _ _ _ _ _ _ _ _ _ _ _ _ _ _ _ _ _ _ _ _ _ _ _ _ _ _ _ _ _ _ _ _ _ _ _ _ _ _ _ _ _ _ _ _ _ _ _ _ _ _ _ _ _ _ _ _ _ _ _ _ _ _ _ _ _ _ _ _ _ _ _ _ _ _ _ _ _ _ _ _ _ _ _ _ _ _ _ _ _ _ _ _ _ _ _ _ _ I hF.symm
 | succ k ih =>
  intro n H rv ev r d;intros;rename_i hn I hr hd hF
  have hle0 : (n : Int) ≤ (ps.length : Int) := by omega
  have hw : IntKind.i64.wrap ((n : Int) + 1) = ((n + 1 : Nat) : Int) := wrapN (n := n + 1) (by omega)
  simp only [cLoop] at hF
  obtain ⟨H1,eA,k1,l1⟩ := hA n H (by omega) I.low I.len
  have e0 : blk? H B = some ⟨false,[.int .i64 pl,pv,dv]⟩ := by rw [I.low _ (blk?_lt b0) n0]; exact b0
  have e1 : blk? H (B + 1) = some ⟨false,[.bool m.byp,.bool m.res,.bool m.rst,.bool m.cz,.bool m.sy]⟩ := by rw [I.low _ (blk?_lt b1) n1]; exact b1
  have I1 := I.keep k1 l1
  have hol := I.ol
  have hle := I1.len
  have d10 : blk? H1 (B + 2) = some ⟨false,[.slice none 0 0,.slice none 0 0]⟩ := by rw [I1.low _ (blk?_lt b10) n10]; exact b10
  have d0 : blk? H1 B = some ⟨false,[.int .i64 pl,pv,dv]⟩ := by rw [I1.low _ (blk?_lt b0) n0]; exact b0
  obtain ⟨pa,pc,hpv⟩ := hp.sl.shape
  rw [ok_round,l23_0,L23_0a,show L23_0b = .seq (.block 1 (.seq (nthC 0 (inB (nthC 0 L23_0b))) (.seq (nthC 1 (inB (nthC 0 L23_0b))) (.seq (nthC 2 (inB (nthC 0 L23_0b))) (.seq (nthC 3 (inB (nthC 0 L23_0b))) (tlC 4 (inB (nthC 0 L23_0b)))))))) (tlC 1 L23_0b) from rfl]
  by_cases h0 : (aft n).2 = 0
  case neg =>
   have h0' : ((aft n).2 != 0) = true := by simpa using h0
   rw [if_pos h0] at hF
   have hR := hE H1 _ hF.symm I1.low I1.len
   have hset := set_same d10
   rw [hpv] at e0 eA
   simp only [nthC,tlC,fstC,inB,L23_0b]
   simp [-Int.natCast_add,-Int.ofNat_le,hle0,e0,e1,eA,h0',d10,hset,finishV,R23,allSome,resV]
   exact hR
  rw [if_neg (by simp [h0])] at hF
  have h0' : ((aft n).2 != 0) = false := by simpa using h0
  obtain ⟨Ha,Hb,a1,oa,ls,os,a2,ob,I2⟩ := I1.step (by omega) (by omega) (rateP ps n) (aft n).1
  have o1 := I1.out
  have ih' := fun K1 K5 Ka Kc Kd Ke Kg Kh Ki Kj Kl Km Kn Ko Kr Ks Kt Ku Kv Kw Kx Ky Kz J0 J1 J2 J3 J4 J5 J6 J7 J8 J9 Ja Jb Jc Jd Je Jf Jg Jh Ji Jj Jk Jl Jm Jn Jo Jp Jq Jr Js Jt Ju Jv Jw Jx Jy Jz Y0 Y1 Y2 Y3 Y4 Y5 Y6 Y7 Y8 Y9 Ya Yb Yc Yd Ye Yf Yg Yh Yi Yj Yk Yl Ym Yn Yo Yp Yq Yr Ys Yt Yu Yv Yw Yx Yy Yz Z0 Z1 Z2 Z3 Z4 Z5 Z6 Z7 Z8 Z9 Za Zb => ih (n + 1) _ _ _ _ _ K1 K5 Ka Kc Kd Ke Kg Kh Ki Kj Kl Km Kn Ko Kr Ks Kt Ku Kv Kw Kx Ky Kz J0 J1 J2 J3 J4 J5 J6 J7 J8 J9 Ja Jb Jc Jd Je Jf Jg Jh Ji Jj Jk Jl Jm Jn Jo Jp Jq Jr Js Jt Ju Jv Jw Jx Jy Jz Y0 Y1 Y2 Y3 Y4 Y5 Y6 Y7 Y8 Y9 Ya Yb Yc Yd Ye Yf Yg Yh Yi Yj Yk Yl Ym Yn Yo Yp Yq Yr Ys Yt Yu Yv Yw Yx Yy Yz Z0 Z1 Z2 Z3 Z4 Z5 Z6 Z7 Z8 Z9 Za Zb (by omega) I2 (by simp; omega) (by simp; omega) hF
  obtain ⟨ra,rc,hrv⟩ := I.o1.sl.shape
  obtain ⟨ea,ec,hev⟩ := I.o2.sl.shape
  have done : ∀ K1 K5 Ka Kc Kd Ke Kg Kh Ki Kj Kl Km Kn Ko Ks Ku Kv Kw Kx Ky Kz J0 J1 J2 J3 J4 J5 J6 J7 J8 J9 Ja Jb Jc Jd Je Jf Jg Jh Ji Jj Jk Jl Jm Jn Jo Jp Jq Jr Js Jt Ju Jv Jw Jx Jy Jz Y0 Y1 Y2 Y3 Y4 Y5 Y6 Y7 Y8 Y9 Ya Yb Yc Yd Ye Yf Yg Yh Yi Yj Yk Yl Ym Yn Yo Yp Yq Yr Ys Yt Yu Yv Yw Yx Yy Yz Z0 Z1 Z2 Z3 Z4 Z5 Z6 Z7 Z8 Z9 Za Zb : Value,Ok tab R23 (.code (tlC 4 (inB (nthC 0 L23_0b))) :: .inBlock 1 :: .code (tlC 1 L23_0b) :: .inLoop L23_0 :: .inBlock 0 :: K) #[cv,K1,.int .i64 w,.int .i64 hh,.int .i64 o,K5,.int .i64 a,.int .i64 b,.int .i64 wt,.int .i64 s,Ka,ptr B,Kc,Kd,Ke,ptr (B + 1),Kg,Kh,Ki,Kj,ptr (B + 2),Kl,Km,Kn,Ko,ptr O,.int .i64 (n : Nat),.int .i64 (aft n).1,Ks,.int .i64 (rateP ps n),Ku,Kv,Kw,Kx,Ky,Kz,J0,J1,J2,J3,J4,J5,J6,J7,J8,J9,Ja,Jb,Jc,Jd,Je,Jf,Jg,Jh,Ji,Jj,Jk,Jl,Jm,Jn,Jo,Jp,Jq,Jr,Js,Jt,Ju,Jv,Jw,Jx,Jy,Jz,Y0,Y1,Y2,Y3,Y4,Y5,Y6,Y7,Y8,Y9,Ya,Yb,Yc,Yd,Ye,Yf,Yg,Yh,Yi,Yj,Yk,Yl,Ym,Yn,Yo,Yp,Yq,Yr,Ys,Yt,Yu,Yv,Yw,Yx,Yy,Yz,Z0,Z1,Z2,Z3,Z4,Z5,Z6,Z7,Z8,Z9,Za,Zb] H1 R := by
   intros
   generalize ((n + 1 : Nat) : Int) = ni at *
   generalize ((ps.length + 1 : Nat) : Int) = pi at *
   rw [hrv,hev] at o1 oa
   rw [hrv] at a1
   rw [hev] at a2 os ob ls
   simp only [nthC,tlC,fstC,inB,L23_0b]
   simp [-Int.natCast_add,o1,repL,a1,oa,ls,os,a2,ob,hw]
   exact ih' ..
  clear ih' ih
  generalize hpi : ((ps.length + 1 : Nat) : Int) = pi at *
  generalize tlC 4 (inB (nthC 0 L23_0b)) = tl4 at *
  generalize tlC 1 L23_0b = tl1 at *
  simp only [nthC,tlC,fstC,inB,L23_0b]
  cases n with
  | zero =>
   have hz : rateP ps 0 = 0 := rfl
   rw [hz] at done
   simp only [Int.cast_ofNat_Int] at eA hle0 done
   rw [hpv] at e0 eA
   have h9 : (0 : Int) ≤ (ps.length : Int) := by omega
   simp [-Int.natCast_add,h9,e0,e1,eA,h0']
   exact done ..
  | succ n =>
   have hz : rateP ps (n + 1) = ps[n]'(by omega) := by
    unfold rateP
    rw [if_neg (by omega),Nat.add_sub_cancel,List.getD_eq_getElem?_getD,List.getElem?_eq_getElem (by omega)]
    rfl
   have hp1 : Rk .i64 H1 pv ps := hp.keep I1.len fun id hid hs => I1.low id hid fun e => hpO (by rw [← e]; exact hs)
   obtain ⟨id,off,bb,epv,hb,hc⟩ := hp1.get (i := n) (by omega)
   have h1 : (0 : Int) < ((n + 1 : Nat) : Int) := by omega
   have w1 : IntKind.i64.wrap (((n + 1 : Nat) : Int) - 1) = (n : Int) := by rw [wrapI (by omega) (by omega)]; omega
   have hnl : (n : Int) < (ps.length : Int) := by omega
   rw [hz] at done
   rw [epv] at d0 e0 eA
   generalize ((n + 1 : Nat) : Int) = nn at *
   simp [-Int.natCast_add,-Int.ofNat_le,hle0,e0,e1,eA,h0',h1,d0,w1,hnl,hb,hc]
   exact done ..
end
section
variable {h : Heap} {cv pv dv : Value} {pl w hh o a b wt s : Int} {m : MD} {ps cs : List Int} {ds : List Nat}
theorem curve_r (hp : Rk .i64 h pv ps) (hd : Rk .u8 h dv (ds.map Int.ofNat)) (hc : Rk .i64 h cv cs) (hds : ∀ x ∈ ds,x < 256) (hl : ps.length < 90000) (hdl : ds.length < 1000000000) :
  ∃ v1 v2 h',(∀ R : RP,Ret tab 23 [cv,.agg #[.int .i64 pl,pv,dv],.int .i64 w,.int .i64 hh,.int .i64 o,m.val,.int .i64 a,.int .i64 b,.int .i64 wt,.int .i64 s] h R = R (.tuple #[.agg #[v1,v2],.int .i64 (curP m pl ps ds w hh o cs a b wt s).1]) h') ∧ VOut h h' v1 v2 (curP m pl ps ds w hh o cs a b wt s) := by
 have key : ∀ R0 : RP,(∀ v1 v2 h',VOut h h' v1 v2 (curP m pl ps ds w hh o cs a b wt s) → R0 (.tuple #[.agg #[v1,v2],.int .i64 (curP m pl ps ds w hh o cs a b wt s).1]) h') → Ret tab 23 [cv,.agg #[.int .i64 pl,pv,dv],.int .i64 w,.int .i64 hh,.int .i64 o,m.val,.int .i64 a,.int .i64 b,.int .i64 wt,.int .i64 s] h R0 := by
  intro R0 hR
  generalize hH : h ++ [some (⟨false,[.int .i64 pl,pv,dv]⟩ : Blk),some ⟨false,[.bool m.byp,.bool m.res,.bool m.rst,.bool m.cz,.bool m.sy]⟩,some ⟨false,[.slice none 0 0,.slice none 0 0]⟩] = H
  have lH : H.length = h.length + 3 := by rw [← hH]; simp
  have kH : ∀ id,id < h.length → blk? H id = blk? h id := fun id hid => by rw [← hH]; exact app_lt hid
  have b0 : blk? H h.length = some ⟨false,[.int .i64 pl,pv,dv]⟩ := by rw [← hH,app_len]; rfl
  have b1 : blk? H (h.length + 1) = some ⟨false,[.bool m.byp,.bool m.res,.bool m.rst,.bool m.cz,.bool m.sy]⟩ := by rw [← hH,app_add]; rfl
  have b2 : blk? H (h.length + 2) = some ⟨false,[.slice none 0 0,.slice none 0 0]⟩ := by rw [← hH,app_add]; rfl
  have hpH : Rk .i64 H pv ps := by rw [← hH]; exact hp.push _
  have hdH : Rk .u8 H dv (ds.map Int.ofNat) := by rw [← hH]; exact hd.push _
  have hcH : Rk .i64 H cv cs := by rw [← hH]; exact hc.push _
  obtain ⟨v1,v2,H1,e1,V⟩ := decode_z (m := m) (pl := pl) (n := 0) (w := w) (hh := hh) (o := o) hpH hdH hds (by omega) hdl
  have lo := V.low
  have le := V.len
  clear V
  have d0 : blk? H1 h.length = some ⟨false,[.int .i64 pl,pv,dv]⟩ := by rw [lo _ (by omega)]; exact b0
  have d1 : blk? H1 (h.length + 1) = some ⟨false,[.bool m.byp,.bool m.res,.bool m.rst,.bool m.cz,.bool m.sy]⟩ := by rw [lo _ (by omega)]; exact b1
  have d10 : blk? H1 (h.length + 2) = some ⟨false,[.slice none 0 0,.slice none 0 0]⟩ := by rw [lo _ (by omega)]; exact b2
  have hset := set_same d10
  have hp1 : Rk .i64 H1 pv ps := hpH.keep le fun id hid _ => lo id hid
  have hd1 : Rk .u8 H1 dv (ds.map Int.ofNat) := hdH.keep le fun id hid _ => lo id hid
  have hc1 : Rk .i64 H1 cv cs := hcH.keep le fun id hid _ => lo id hid
  have bad : ∀ e,curP m pl ps ds w hh o cs a b wt s = (e,[],[]) → R0 (.tuple #[.agg #[.slice none 0 0,.slice none 0 0],.int .i64 e]) H1 := fun e he => by
   rw [he] at hR
   exact hR _ _ _ (VOut.bad (fun id hid => by rw [lo id (by omega),kH id hid]) (by omega) e)
  obtain ⟨ca,cc,hcv⟩ := hc.sl.shape
  obtain ⟨pa,pc,hpv⟩ := hp.sl.shape
  have hchk : (decP m pl ps ds 0 w hh o).1 = 0 → 1 ≤ w ∧ w ≤ 64 ∧ 1 ≤ hh ∧ hh ≤ 64 := by
   intro h0
   unfold decP at h0
   split at h0
   ·rename_i hx; exact absurd h0 hx
   ·rename_i hx
    have hx : checkP pl ps (ds.map Int.ofNat) 0 w hh o = 0 := by simpa using hx
    obtain ⟨_,_,_,w1,w2,h1,h2,_⟩ := check_ok hx
    exact ⟨w1,w2,h1,h2⟩
  unfold curP at hR bad
  generalize hX : (decP m pl ps ds 0 w hh o).1 = X at *
  simp only [MD.val] at e1
  rw [enter23,show B23 = .seq (nthC 0 B23) (.seq (nthC 1 B23) (.seq (nthC 2 B23) (.seq (nthC 3 B23) (.seq (nthC 4 B23) (.seq (nthC 5 B23) (tlC 6 B23)))))) from rfl]
  generalize hT : tlC 6 B23 = tl6
  simp only [nthC,tlC,fstC,B23]
  by_cases hx0 : X = 0
  case neg =>
   have hx0' : (X != 0) = true := by simpa using hx0
   have hR' := bad X (by rw [if_pos hx0])
   simp [MD.val,hH,b0,b1,e1,hx0',d10,hset,finishV,R23,allSome,resV]
   exact hR'
  have hx0' : (X != 0) = false := by simpa using hx0
  obtain ⟨w1,w2,h1,h2⟩ := hchk hx0
  rw [if_neg (by simp [hx0])] at hR bad
  obtain ⟨m1,m2⟩ := mul_le_int (a := w) (b := hh) (c := 64) (d := 64) (by omega) (by omega) (by omega) (by omega)
  have hwr : IntKind.i64.wrap (w * hh) = w * hh := wrapI (by omega) (by omega)
  by_cases hlen : (cs.length : Int) = w * hh
  case neg =>
   have hlen' : ((cs.length : Int) != w * hh) = true := by simpa using hlen
   have hR' := bad 4 (by rw [if_pos hlen])
   simp [MD.val,hH,b0,b1,e1,hx0',hcv,hwr,hlen',d10,hset,finishV,R23,allSome,resV]
   exact hR'
  have hlen' : ((cs.length : Int) != w * hh) = false := by simpa using hlen
  rw [if_neg (by simp [hlen])] at hR bad
  have hq := fun H R => qvalid_r (h := H) (R := R) (a := a) (b := b)
  by_cases hqo : QOk a b
  rotate_left
  ·have hR' := bad 2 (by rw [if_pos (.inl hqo)])
   simp [MD.val,k_guard,k_guardU,hH,b0,b1,e1,hx0',hcv,hwr,hlen',hq,hqo,d10,hset,finishV,R23,allSome,resV]
   exact hR'
  by_cases q1 : wt < 0
  ·have hR' := bad 2 (by rw [if_pos (.inr (.inl q1))])
   simp [MD.val,k_guard,k_guardU,hH,b0,b1,e1,hx0',hcv,hwr,hlen',hq,hqo,q1,d10,hset,finishV,R23,allSome,resV]
   exact hR'
  by_cases q2 : 16 < wt
  ·have hR' := bad 2 (by rw [if_pos (.inr (.inr (.inl q2)))])
   simp [MD.val,k_guard,k_guardU,hH,b0,b1,e1,hx0',hcv,hwr,hlen',hq,hqo,q1,q2,d10,hset,finishV,R23,allSome,resV]
   exact hR'
  by_cases q3 : s < 0
  ·have hR' := bad 2 (by rw [if_pos (.inr (.inr (.inr (.inl q3))))])
   simp [MD.val,k_guard,k_guardU,hH,b0,b1,e1,hx0',hcv,hwr,hlen',hq,hqo,q1,q2,q3,d10,hset,finishV,R23,allSome,resV]
   exact hR'
  by_cases q4 : 30 < s
  ·have hR' := bad 2 (by rw [if_pos (.inr (.inr (.inr (.inr q4))))])
   simp [MD.val,k_guard,k_guardU,hH,b0,b1,e1,hx0',hcv,hwr,hlen',hq,hqo,q1,q2,q3,q4,d10,hset,finishV,R23,allSome,resV]
   exact hR'
  rw [if_neg (by intro hz; rcases hz with hz | hz | hz | hz | hz; exact hz hqo; exact q1 hz; exact q2 hz; exact q3 hz; exact q4 hz)] at hR bad
  generalize hF : cLoop (aftP m pl ps ds w hh o cs a b wt s) ps (ps.length + 1) 0 [] [] = F at *
  generalize hB : H1 ++ [some (⟨false,[.slice none 0 0,.slice none 0 0]⟩ : Blk)] = HB
  have lB : HB.length = H1.length + 1 := by rw [← hB]; simp
  have kB : ∀ id,id < H1.length → blk? HB id = blk? H1 id := fun id hid => by rw [← hB]; exact blk?_push_lt hid
  have hpB : Rk .i64 HB pv ps := hp1.keep (by omega) fun id hid _ => kB id hid
  have hdB : Rk .u8 HB dv (ds.map Int.ofNat) := hd1.keep (by omega) fun id hid _ => kB id hid
  have hcB : Rk .i64 HB cv cs := hc1.keep (by omega) fun id hid _ => kB id hid
  have bO : blk? HB H1.length = some ⟨false,[.slice none 0 0,.slice none 0 0]⟩ := by rw [← hB]; exact blk?_push_eq
  have hL := fun K1 K5 Ka Kc Kd Ke Kg Kh Ki Kj Kl Km Kn Ko Kr Ks Kt Ku Kv Kw Kx Ky Kz J0 J1 J2 J3 J4 J5 J6 J7 J8 J9 Ja Jb Jc Jd Je Jf Jg Jh Ji Jj Jk Jl Jm Jn Jo Jp Jq Jr Js Jt Ju Jv Jw Jx Jy Jz Y0 Y1 Y2 Y3 Y4 Y5 Y6 Y7 Y8 Y9 Ya Yb Yc Yd Ye Yf Yg Yh Yi Yj Yk Yl Ym Yn Yo Yp Yq Yr Ys Yt Yu Yv Yw Yx Yy Yz Z0 Z1 Z2 Z3 Z4 Z5 Z6 Z7 Z8 Z9 Za Zb => cur_loop (R := R0) (hB := HB) (B := h.length) (O := H1.length) (cv := cv) (pv := pv) (dv := dv) (pl := pl) (w := w) (hh := hh) (o := o) (a := a) (b := b) (wt := wt) (s := s) (m := m) (ps := ps) (aft := aftP m pl ps ds w hh o cs a b wt s) (fin := F) (K := [.code tl6])
   hpB (fun e => by have := hp1.lt e; omega) (by rw [kB _ (by omega)]; exact d0) (by omega) (by rw [kB _ (by omega)]; exact d1) (by omega) (by rw [kB _ (by omega)]; exact d10) (by omega) (by omega)
   (fun n G hn low len => by
    have keepR : ∀ {k : IntKind} {v : Value} {xs : List Int},Rk k H1 v xs → Rk k HB v xs → Rk k G v xs := fun {k v xs} r1 rB => rB.keep len fun id hid hs => low id hid (by have := r1.lt hs; omega)
    obtain ⟨G',eG,kG,lG⟩ := after_r (m := m) (pl := pl) (w := w) (hh := hh) (o := o) (a := a) (b := b) (wt := wt) (s := s) n (keepR hp1 hpB) (keepR hd1 hdB) (keepR hc1 hcB) hds (by omega) hdl
    exact ⟨G',fun R => by simpa [MD.val] using eG R,kG,lG⟩)
   (fun G rv ev r d K0 K1 K2 K3 K4 K5 K6 K7 K8 K9 Ka Kb Kc Kd Ke Kf Kg Kh Ki Kj Kl Km Kn Ko Kq Kr Ks Kt Ku Kv Kw Kx Ky Kz J0 J1 J2 J3 J4 J5 J6 J7 J8 J9 Ja Jb Jc Jd Je Jf Jg Jh Ji Jj Jk Jl Jm Jn Jo Jp Jq Jr Js Jt Ju Jv Jw Jx Jy Jz Y0 Y1 Y2 Y3 Y4 Y5 Y6 Y7 Y8 Y9 Ya Yb Yc Yd Ye Yf Yg Yh Yi Yj Yk Yl Ym Yn Yo Yp Yq Yr Ys Yt Yu Yv Yw Yx Yy Yz Z0 Z1 Z2 Z3 Z4 Z5 Z6 Z7 Z8 Z9 Za Zb I hFe => by
    have g10 : blk? G (h.length + 2) = some ⟨false,[.slice none 0 0,.slice none 0 0]⟩ := by rw [I.low _ (by omega) (by omega),kB _ (by omega)]; exact d10
    have gO := I.out
    have lG := I.len
    generalize hS : G.set (h.length + 2) (some ⟨false,[rv,ev]⟩) = G'
    have g10' : blk? G' (h.length + 2) = some ⟨false,[rv,ev]⟩ := by rw [← hS]; exact blk?_set_eq (by omega)
    have lG' : G'.length = G.length := by rw [← hS]; simp
    have nS : ∀ id,id ≠ h.length + 2 → blk? G' id = blk? G id := fun id hid => by rw [← hS]; exact blk?_set_ne (by omega)
    rw [hFe] at hR
    have hR' := hR rv ev G' ⟨own_lv I.o1 fun id hid => nS id (by have := I.f1 id hid; omega),own_lv I.o2 fun id hid => nS id (by have := I.f2 id hid; omega),fun id hid => by rw [nS id (by omega),I.low id (by omega) (by omega),kB id (by omega),lo id (by omega),kH id hid],by omega,fun id hid => by rcases hid with hid | hid; (have := I.f1 id hid; omega); (have := I.f2 id hid; omega),I.ne⟩
    rw [← hT]
    simp only [nthC,tlC,fstC,B23]
    simp [g10,gO,hS,g10',finishV,R23,allSome,resV]
    exact hR')
   (fun G e hFe low len => by
    rw [hFe] at hR
    exact hR _ _ _ (VOut.bad (fun id hid => by rw [low id (by omega) (by omega),kB id (by omega),lo id (by omega),kH id hid]) (by omega) e))
   (ps.length + 1) 0 HB (.slice none 0 0) (.slice none 0 0) [] [] K1 K5 Ka Kc Kd Ke Kg Kh Ki Kj Kl Km Kn Ko Kr Ks Kt Ku Kv Kw Kx Ky Kz J0 J1 J2 J3 J4 J5 J6 J7 J8 J9 Ja Jb Jc Jd Je Jf Jg Jh Ji Jj Jk Jl Jm Jn Jo Jp Jq Jr Js Jt Ju Jv Jw Jx Jy Jz Y0 Y1 Y2 Y3 Y4 Y5 Y6 Y7 Y8 Y9 Ya Yb Yc Yd Ye Yf Yg Yh Yi Yj Yk Yl Ym Yn Yo Yp Yq Yr Ys Yt Yu Yv Yw Yx Yy Yz Z0 Z1 Z2 Z3 Z4 Z5 Z6 Z7 Z8 Z9 Za Zb (by omega)
   ⟨fun id _ _ => rfl,Nat.le_refl _,bO,OwnS.nil _ _,OwnS.nil _ _,fun id hid => by simp [sid] at hid,fun id hid => by simp [sid] at hid,fun id hid => by simp [sid] at hid,by omega⟩ rfl rfl hF
  simp only [Int.cast_ofNat_Int] at hL
  rw [hcv] at hL
  simp [MD.val,k_guard,k_guardU,hH,b0,b1,e1,hx0',hcv,hwr,hlen',hq,hqo,q1,q2,q3,q4,hB]
  exact hL ..
 obtain ⟨v,h',e,v1,v2,rfl,V⟩ := ret_ex (key (fun v h' => ∃ v1 v2,v = .tuple #[.agg #[v1,v2],.int .i64 (curP m pl ps ds w hh o cs a b wt s).1] ∧ VOut h h' v1 v2 (curP m pl ps ds w hh o cs a b wt s)) fun v1 v2 h' V => ⟨v1,v2,rfl,V⟩)
 exact ⟨v1,v2,h',e,V⟩
end
theorem sl_int {h : Heap} {s : Value} {xs : List Int} (hs : Sl h 1 s xs.length (i64s xs)) {i : Nat} (hi : i < xs.length) : ∃ id off b,s = .slice (some ⟨id,off,none⟩) xs.length 1 ∧ blk? h id = some b ∧ b.cells[off + i]? = some (.int .i64 xs[i]) := by
 obtain ⟨id,off,b,e,hb,hc⟩ := hs.get hi
 have := hc 0 (by omega)
 refine ⟨id,off,b,e,hb,?_⟩
 rw [Nat.mul_one,Nat.add_zero,Nat.add_zero] at this
 rw [this]; simp [i64s,hi]
section
variable {h : Heap} {R : RP} {s t : Value} {xs ys : List Int}
end
section
variable {h : Heap} {R : RP} {s t : Value} {xs ys : List Int}
theorem same_loop_i {k : List RItem} (hs : Sl h 1 s xs.length (i64s xs)) (ht : Sl h 1 t ys.length (i64s ys)) (he : xs.length = ys.length) (hl : xs.length < 1000000)
  (hk : ∀ (K0 K1 K2 K3 K5 K6 K7 K8 K9 Ka Kb Kc Kd Ke Kf Kg Kh Ki Kj Kk Kl Km Kn Ko Kp : Value),xs = ys → Ok tab R24 k #[K0,K1,K2,K3,.bool false,K5,K6,K7,K8,K9,Ka,Kb,Kc,Kd,Ke,Kf,Kg,Kh,Ki,Kj,Kk,Kl,Km,Kn,Ko,Kp] h R) (hb : xs ≠ ys → R (.bool false) h) :
  ∀ (d i : Nat) (K2 K3 K6 K7 K8 K9 Ka Kb Kc Kd Ke Kf Kg Kh Ki Kj Kk Kl Km Kn Ko Kp : Value),i + d = xs.length → xs.take i = ys.take i → Ok tab R24 (.inLoop L24_0 :: .inBlock 0 :: k) #[s,t,K2,K3,.bool false,.int .i64 (i : Nat),K6,K7,K8,K9,Ka,Kb,Kc,Kd,Ke,Kf,Kg,Kh,Ki,Kj,Kk,Kl,Km,Kn,Ko,Kp] h R := by
 intro d
 induction d with
 | zero =>
  intro i;intros;rename_i hd hv
  obtain rfl : i = xs.length := by omega
  rw [List.take_of_length_le (Nat.le_refl _),he,List.take_of_length_le (Nat.le_refl _)] at hv
  obtain ⟨sa,sc,hss⟩ := hs.shape
  rw [ok_round,l24_0,L24_0a,L24_0b]
  simp [hss]
  exact hk _ _ _ _ _ _ _ _ _ _ _ _ _ _ _ _ _ _ _ _ _ _ _ _ _ hv
 | succ d ih =>
  intro i;intros;rename_i hd hv
  have hi : i < xs.length := by omega
  have hi' : i < ys.length := by omega
  have hlt : (i : Int) < (xs.length : Int) := by omega
  have hlt' : (i : Int) < (ys.length : Int) := by omega
  obtain ⟨id,off,b,e,hbk,hc⟩ := sl_int hs hi
  obtain ⟨id',off',b',e',hbk',hc'⟩ := sl_int ht hi'
  have hw : IntKind.i64.wrap ((i : Int) + 1) = ((i + 1 : Nat) : Int) := wrapN (n := i + 1) (by omega)
  have ih' := fun K2 K3 K6 K7 K8 K9 Ka Kb Kc Kd Ke Kf Kg Kh Ki Kj Kk Kl Km Kn Ko Kp => ih (i + 1) K2 K3 K6 K7 K8 K9 Ka Kb Kc Kd Ke Kf Kg Kh Ki Kj Kk Kl Km Kn Ko Kp (by omega)
  generalize hi1 : ((i + 1 : Nat) : Int) = i1 at *
  rw [e,e'] at ih' ⊢
  rw [ok_round,l24_0,L24_0a,L24_0b]
  by_cases hx : xs[i] = ys[i]
  ·have hx' : (xs[i] != ys[i]) = false := by simp [hx]
   have ee : xs.take (i + 1) = ys.take (i + 1) := by
    rw [List.take_succ_eq_append_getElem hi,List.take_succ_eq_append_getElem hi',hv,hx]
   simp [hlt,hlt',hbk,hbk',hc,hc',hx',hw]
   exact ih' _ _ _ _ _ _ _ _ _ _ _ _ _ _ _ _ _ _ _ _ _ _ ee
  ·have hx' : (xs[i] != ys[i]) = true := by simpa using hx
   simp [hlt,hlt',hbk,hbk',hc,hc',hx',fin24]
   exact hb fun e => hx (by simp [e])
theorem same_i (hs : Sl h 1 s xs.length (i64s xs)) (ht : Sl h 1 t ys.length (i64s ys)) (hl : xs.length < 1000000) : Ret tab 24 [s,t] h R = R (.bool (decide (xs = ys))) h := by
 have key : Ret tab 24 [s,t] h fun v h' => v = .bool (decide (xs = ys)) ∧ h' = h := by
  obtain ⟨sa,sc,hss⟩ := hs.shape
  obtain ⟨ta,tc,hts⟩ := ht.shape
  rw [enter24,B24]
  by_cases he : xs.length = ys.length
  ·have he' : ((xs.length : Int) != (ys.length : Int)) = false := by simp [he]
   have hL := fun K2 K3 K6 K7 K8 K9 Ka Kb Kc Kd Ke Kf Kg Kh Ki Kj Kk Kl Km Kn Ko Kp => same_loop_i (R := fun v h' => v = .bool (decide (xs = ys)) ∧ h' = h) (k := [.code (tlC 3 B24)]) hs ht he hl
    (fun K0 K1 K2 K3 K5 K6 K7 K8 K9 Ka Kb Kc Kd Ke Kf Kg Kh Ki Kj Kk Kl Km Kn Ko Kp hxy => by
     simp only [nthC,tlC,fstC,B24]
     simp [hxy,fin24]) (fun hxy => by simp [hxy]) xs.length 0 K2 K3 K6 K7 K8 K9 Ka Kb Kc Kd Ke Kf Kg Kh Ki Kj Kk Kl Km Kn Ko Kp (by omega) rfl
   simp only [tlC,B24] at hL
   rw [hss,hts] at hL ⊢
   simp [he']
   exact hL ..
  ·have he' : ((xs.length : Int) != (ys.length : Int)) = true := by simp only [bne_iff_ne,ne_eq]; omega
   have hne : ¬ xs = ys := fun x => he (by rw [x])
   rw [hss,hts]
   simp [he',hne,fin24]
 obtain ⟨v,h',e,rfl,rfl⟩ := ret_ex key
 exact e R
end
theorem ex_ran : (run tab 1000 R21 [.code R21.body] (mkEnv R21 []) []).map (·.1) = some (.bool true) := by kernel_rfl
theorem ex_eq {h : Heap} {R : RP} : Ret tab 21 [] h R = R (.bool true) h := iso_eq rfl rfl rfl ex_ran rfl
def lightP (np nd : Nat) (w hh : Int) : Bool := decide (np ≤ 28 ∧ nd ≤ 2000 ∧ w ≤ 12 ∧ hh ≤ 12)
section
variable {h : Heap} {cv pv dv : Value} {pl w hh o a b wt s : Int} {ps cs : List Int} {x1 x2 x3 x4 x5 : Bool}
theorem light_c {ds : List Int} (hp : Rk .i64 h pv ps) (hd : Rk .u8 h dv ds) : Gives 20 [.agg #[.int .i64 pl,pv,dv],.agg #[.int .i64 w,.int .i64 hh,.int .i64 o,.bool x1,.bool x2,.bool x3,.bool x4,.bool x5,.int .i64 a,.int .i64 b,.int .i64 wt,.int .i64 s]] h (.bool (lightP ps.length ds.length w hh)) := by
 refine Gives.mk fun R0 hR => ?_
 obtain ⟨pa,pc,hpv⟩ := hp.sl.shape
 obtain ⟨da,dc,hdv⟩ := hd.sl.shape
 generalize hH : h ++ [some (⟨false,[.int .i64 pl,pv,dv]⟩ : Blk),some ⟨false,[.int .i64 w,.int .i64 hh,.int .i64 o,.bool x1,.bool x2,.bool x3,.bool x4,.bool x5,.int .i64 a,.int .i64 b,.int .i64 wt,.int .i64 s]⟩] = H
 have b0 : blk? H h.length = some ⟨false,[.int .i64 pl,pv,dv]⟩ := by rw [← hH,app_len]; rfl
 have b1 : blk? H (h.length + 1) = some ⟨false,[.int .i64 w,.int .i64 hh,.int .i64 o,.bool x1,.bool x2,.bool x3,.bool x4,.bool x5,.int .i64 a,.int .i64 b,.int .i64 wt,.int .i64 s]⟩ := by rw [← hH,app_add]; rfl
 have hR' := hR H (fun id hid => by rw [← hH]; exact app_lt hid) (by rw [← hH]; simp)
 clear hR
 rw [hpv,hdv] at hH b0
 rw [hpv,hdv,enter20,B20]
 unfold lightP at hR'
 by_cases c1 : ps.length ≤ 28
 case neg =>
  have c1' : ¬ (ps.length : Int) ≤ 28 := by omega
  simp [c1] at hR'
  simp [k_guard,k_guardU,hH,b0,b1,c1',fin20]
  exact hR'
 have c1' : (ps.length : Int) ≤ 28 := by omega
 by_cases c2 : ds.length ≤ 2000
 case neg =>
  have c2' : ¬ (ds.length : Int) ≤ 2000 := by omega
  simp [c2] at hR'
  simp [k_guard,k_guardU,hH,b0,b1,c1',c2',fin20]
  exact hR'
 have c2' : (ds.length : Int) ≤ 2000 := by omega
 by_cases c3 : w ≤ 12
 case neg =>
  simp [c3] at hR'
  simp [k_guard,k_guardU,hH,b0,b1,c1',c2',c3,fin20]
  exact hR'
 by_cases c4 : hh ≤ 12
 ·simp [c1,c2,c3,c4] at hR'
  simp [k_guard,k_guardU,hH,b0,b1,c1',c2',c3,c4,fin20]
  exact hR'
 ·simp [c4] at hR'
  simp [k_guard,k_guardU,hH,b0,b1,c1',c2',c3,c4,fin20]
  exact hR'
theorem curveL_c {ds : List Nat} (hp : Rk .i64 h pv ps) (hd : Rk .u8 h dv (ds.map Int.ofNat)) (hc : Rk .i64 h cv cs) (hds : ∀ x ∈ ds,x < 256) (hl : ps.length < 90000) (hdl : ds.length < 1000000000) :
  ∃ v1 v2 h',(∀ R : RP,Ret tab 22 [cv,.agg #[.int .i64 pl,pv,dv],.agg #[.int .i64 w,.int .i64 hh,.int .i64 o,.bool x1,.bool x2,.bool x3,.bool x4,.bool x5,.int .i64 a,.int .i64 b,.int .i64 wt,.int .i64 s]] h R = R (.tuple #[.agg #[v1,v2],.int .i64 (curP ⟨x1,x2,x3,x4,x5⟩ pl ps ds w hh o cs a b wt s).1]) h') ∧ VOut h h' v1 v2 (curP ⟨x1,x2,x3,x4,x5⟩ pl ps ds w hh o cs a b wt s) := by
 have key : ∀ R0 : RP,(∀ v1 v2 h',VOut h h' v1 v2 (curP ⟨x1,x2,x3,x4,x5⟩ pl ps ds w hh o cs a b wt s) → R0 (.tuple #[.agg #[v1,v2],.int .i64 (curP ⟨x1,x2,x3,x4,x5⟩ pl ps ds w hh o cs a b wt s).1]) h') → Ret tab 22 [cv,.agg #[.int .i64 pl,pv,dv],.agg #[.int .i64 w,.int .i64 hh,.int .i64 o,.bool x1,.bool x2,.bool x3,.bool x4,.bool x5,.int .i64 a,.int .i64 b,.int .i64 wt,.int .i64 s]] h R0 := by
  intro R0 hR
  generalize hH : h ++ [some (⟨false,[.int .i64 pl,pv,dv]⟩ : Blk),some ⟨false,[.int .i64 w,.int .i64 hh,.int .i64 o,.bool x1,.bool x2,.bool x3,.bool x4,.bool x5,.int .i64 a,.int .i64 b,.int .i64 wt,.int .i64 s]⟩,some ⟨false,[.slice none 0 0,.slice none 0 0]⟩] = H
  have lH : H.length = h.length + 3 := by rw [← hH]; simp
  have kH : ∀ id,id < h.length → blk? H id = blk? h id := fun id hid => by rw [← hH]; exact app_lt hid
  have b0 : blk? H h.length = some ⟨false,[.int .i64 pl,pv,dv]⟩ := by rw [← hH,app_len]; rfl
  have b1 : blk? H (h.length + 1) = some ⟨false,[.int .i64 w,.int .i64 hh,.int .i64 o,.bool x1,.bool x2,.bool x3,.bool x4,.bool x5,.int .i64 a,.int .i64 b,.int .i64 wt,.int .i64 s]⟩ := by rw [← hH,app_add]; rfl
  have b2 : blk? H (h.length + 2) = some ⟨false,[.slice none 0 0,.slice none 0 0]⟩ := by rw [← hH,app_add]; rfl
  have hpH : Rk .i64 H pv ps := by rw [← hH]; exact hp.push _
  have hdH : Rk .u8 H dv (ds.map Int.ofNat) := by rw [← hH]; exact hd.push _
  have hcH : Rk .i64 H cv cs := by rw [← hH]; exact hc.push _
  obtain ⟨v1,v2,H1,e1,V⟩ := curve_c (m := ⟨x1,x2,x3,x4,x5⟩) (pl := pl) (w := w) (hh := hh) (o := o) (a := a) (b := b) (wt := wt) (s := s) hpH hdH hcH hds hl hdl
  have lo := V.low
  have le := V.len
  have d2 : blk? H1 (h.length + 2) = some ⟨false,[.slice none 0 0,.slice none 0 0]⟩ := by rw [lo _ (by omega)]; exact b2
  generalize hS : H1.set (h.length + 2) (some ⟨false,[v1,v2]⟩) = H2
  have d2' : blk? H2 (h.length + 2) = some ⟨false,[v1,v2]⟩ := by rw [← hS]; exact blk?_set_eq (by omega)
  have l2 : H2.length = H1.length := by rw [← hS]; simp
  have nS : ∀ id,id ≠ h.length + 2 → blk? H2 id = blk? H1 id := fun id hid => by rw [← hS]; exact blk?_set_ne (by omega)
  have hR' := hR v1 v2 H2 ⟨own_lv V.o1 fun id hid => nS id (by have := V.fr id (.inl hid); omega),own_lv V.o2 fun id hid => nS id (by have := V.fr id (.inr hid); omega),fun id hid => by rw [nS id (by omega),lo id (by omega),kH id hid],by omega,fun id hid => by have := V.fr id hid; omega,V.ne⟩
  clear V
  generalize curP ⟨x1,x2,x3,x4,x5⟩ pl ps ds w hh o cs a b wt s = X at *
  simp only [MD.val] at e1
  rw [enter22,B22]
  simp [book,bookU,logOf,addLog,chk1,lookL,reload,veq,hH,b0,b1,e1,d2,hS,d2',finishV,R22,allSome,resV]
  exact hR'
 obtain ⟨v,h',e,v1,v2,rfl,V⟩ := ret_ex (key (fun v h' => ∃ v1 v2,v = .tuple #[.agg #[v1,v2],.int .i64 (curP ⟨x1,x2,x3,x4,x5⟩ pl ps ds w hh o cs a b wt s).1] ∧ VOut h h' v1 v2 (curP ⟨x1,x2,x3,x4,x5⟩ pl ps ds w hh o cs a b wt s)) fun v1 v2 h' V => ⟨v1,v2,rfl,V⟩)
 exact ⟨v1,v2,h',e,V⟩
theorem cLoop_len {aft : Nat → Int × Int} {ps : List Int} : ∀ {k n : Nat} {r d : List Int},r.length = d.length → (cLoop aft ps k n r d).2.1.length = (cLoop aft ps k n r d).2.2.length ∧ (cLoop aft ps k n r d).2.1.length ≤ r.length + k
 | 0,n,r,d,h => by simp [cLoop,h]
 | k + 1,n,r,d,h => by
  unfold cLoop
  split
  ·simp
  ·obtain ⟨a,b⟩ := cLoop_len (aft := aft) (ps := ps) (k := k) (n := n + 1) (r := r ++ [rateP ps n]) (d := d ++ [(aft n).1]) (by simp [h])
   exact ⟨a,by simp at b; omega⟩
theorem curP_len (m : MD) (pl : Int) (ps : List Int) (ds : List Nat) (w hh o : Int) (cs : List Int) (a b wt s : Int) : (curP m pl ps ds w hh o cs a b wt s).2.1.length ≤ ps.length + 1 ∧ (curP m pl ps ds w hh o cs a b wt s).2.2.length ≤ ps.length + 1 := by
 unfold curP
 repeat' split
 ·simp
 ·simp
 ·simp
 ·obtain ⟨p,q⟩ := cLoop_len (aft := aftP m pl ps ds w hh o cs a b wt s) (ps := ps) (k := ps.length + 1) (n := 0) (r := []) (d := []) rfl
  simp only [List.length_nil] at q
  omega
theorem ret_curves {ds : List Int} (hc : Rk .i64 h cv cs) (hp : Rk .i64 h pv ps) (hd : Rk .u8 h dv ds) :
  Ret tab 6 [cv,.agg #[.int .i64 pl,pv,dv],.agg #[.int .i64 w,.int .i64 hh,.int .i64 o,.bool x1,.bool x2,.bool x3,.bool x4,.bool x5,.int .i64 a,.int .i64 b,.int .i64 wt,.int .i64 s]] h fun v _ => v = .bool true := by
 obtain ⟨dn,rfl,hdn⟩ := Rk.nat hd
 obtain ⟨ca,cc,hcv⟩ := hc.sl.shape
 obtain ⟨pa,pc,hpv⟩ := hp.sl.shape
 generalize hX : (.agg #[.int .i64 w,.int .i64 hh,.int .i64 o,.bool x1,.bool x2,.bool x3,.bool x4,.bool x5,.int .i64 a,.int .i64 b,.int .i64 wt,.int .i64 s] : Value) = XV at *
 generalize hH : h ++ [some (⟨false,[.int .i64 pl,pv,dv]⟩ : Blk),some ⟨false,[.int .i64 w,.int .i64 hh,.int .i64 o,.bool x1,.bool x2,.bool x3,.bool x4,.bool x5,.int .i64 a,.int .i64 b,.int .i64 wt,.int .i64 s]⟩] = H
 have b0 : blk? H h.length = some ⟨false,[.int .i64 pl,pv,dv]⟩ := by rw [← hH,app_len]; rfl
 have b1 : blk? H (h.length + 1) = some ⟨false,[.int .i64 w,.int .i64 hh,.int .i64 o,.bool x1,.bool x2,.bool x3,.bool x4,.bool x5,.int .i64 a,.int .i64 b,.int .i64 wt,.int .i64 s]⟩ := by rw [← hH,app_add]; rfl
 have lH : H.length = h.length + 2 := by rw [← hH]; simp
 have hcH : Rk .i64 H cv cs := by rw [← hH]; exact hc.push _
 have hpH : Rk .i64 H pv ps := by rw [← hH]; exact hp.push _
 have hdH : Rk .u8 H dv (dn.map Int.ofNat) := by rw [← hH]; exact hd.push _
 obtain ⟨H1,e1,k1,l1⟩ := light_c (pl := pl) (w := w) (hh := hh) (o := o) (x1 := x1) (x2 := x2) (x3 := x3) (x4 := x4) (x5 := x5) (a := a) (b := b) (wt := wt) (s := s) hpH hdH
 have low : ∀ {G : Heap},(∀ id,id < H.length → blk? G id = blk? H id) → H.length ≤ G.length → blk? G h.length = some ⟨false,[.int .i64 pl,pv,dv]⟩ ∧ blk? G (h.length + 1) = some ⟨false,[.int .i64 w,.int .i64 hh,.int .i64 o,.bool x1,.bool x2,.bool x3,.bool x4,.bool x5,.int .i64 a,.int .i64 b,.int .i64 wt,.int .i64 s]⟩ ∧ Rk .i64 G cv cs ∧ Rk .i64 G pv ps ∧ Rk .u8 G dv (dn.map Int.ofNat) := fun kG lG =>
  ⟨by rw [kG _ (by omega)]; exact b0,by rw [kG _ (by omega)]; exact b1,hcH.keep lG fun id hid _ => kG id hid,hpH.keep lG fun id hid _ => kG id hid,hdH.keep lG fun id hid _ => kG id hid⟩
 rw [enter6,B6]
 rw [← hX]
 cases hf : lightP ps.length (dn.map Int.ofNat).length w hh with
 | false =>
  rw [hf] at e1
  simp [k_guard,k_guardU,hH,b0,b1,e1,ex_eq,fin6]
 | true =>
 rw [hf] at e1
 obtain ⟨f1,f2,_⟩ : ps.length ≤ 28 ∧ (dn.map Int.ofNat).length ≤ 2000 ∧ w ≤ 12 ∧ hh ≤ 12 := by simpa only [lightP,decide_eq_true_eq] using hf
 rw [List.length_map] at f2
 by_cases hc2 : (200 : Int) < cs.length
 ·rw [hcv]
  simp [k_guard,k_guardU,hH,b0,b1,e1,hc2,ex_eq,fin6]
 obtain ⟨b01,b11,hc1,hp1,hd1⟩ := low k1 l1
 obtain ⟨v3,y3,H3,e3,V3⟩ := curveL_c (pl := pl) (w := w) (hh := hh) (o := o) (x1 := x1) (x2 := x2) (x3 := x3) (x4 := x4) (x5 := x5) (a := a) (b := b) (wt := wt) (s := s) hp1 hd1 hc1 hdn (by omega) (by omega)
 have k3 := V3.low
 have l3 := V3.len
 generalize hH4 : H3 ++ [some (⟨false,[v3,y3]⟩ : Blk)] = H4
 have l4 : H4.length = H3.length + 1 := by rw [← hH4]; simp
 have k4 : ∀ id,id < H3.length → blk? H4 id = blk? H3 id := fun id hid => by rw [← hH4]; exact blk?_push_lt hid
 have s4 : (H3 ++ [some (⟨false,[.slice none 0 0,.slice none 0 0]⟩ : Blk)]).set H3.length (some ⟨false,[v3,y3]⟩) = H4 := by rw [app_set]; exact hH4
 have p4 : blk? (H3 ++ [some (⟨false,[.slice none 0 0,.slice none 0 0]⟩ : Blk)]) H3.length = some ⟨false,[.slice none 0 0,.slice none 0 0]⟩ := blk?_push_eq
 have c4 : blk? H4 H3.length = some ⟨false,[v3,y3]⟩ := by rw [← hH4]; exact blk?_push_eq
 obtain ⟨b04,b14,hc4,hp4,hd4⟩ := low (G := H4) (fun id hid => by rw [k4 id (by omega),k3 id (by omega),k1 id hid]) (by omega)
 obtain ⟨v5,y5,H5,e5,V5⟩ := curve_r (m := ⟨x1,x2,x3,x4,x5⟩) (pl := pl) (w := w) (hh := hh) (o := o) (a := a) (b := b) (wt := wt) (s := s) hp4 hd4 hc4 hdn (by omega) (by omega)
 have k5 := V5.low
 have l5 := V5.len
 obtain ⟨dl1,dl2⟩ := curP_len ⟨x1,x2,x3,x4,x5⟩ pl ps dn w hh o cs a b wt s
 generalize curP ⟨x1,x2,x3,x4,x5⟩ pl ps dn w hh o cs a b wt s = X at *
 obtain ⟨X0,X1,X2⟩ := X
 simp only [MD.val] at e3 e5 dl1 dl2
 generalize hH6 : H5 ++ [some (⟨false,[v5,y5]⟩ : Blk)] = H6
 have l6 : H6.length = H5.length + 1 := by rw [← hH6]; simp
 have k6 : ∀ id,id < H5.length → blk? H6 id = blk? H5 id := fun id hid => by rw [← hH6]; exact blk?_push_lt hid
 have s6 : (H5 ++ [some (⟨false,[.slice none 0 0,.slice none 0 0]⟩ : Blk)]).set H5.length (some ⟨false,[v5,y5]⟩) = H6 := by rw [app_set]; exact hH6
 have p6 : blk? (H5 ++ [some (⟨false,[.slice none 0 0,.slice none 0 0]⟩ : Blk)]) H5.length = some ⟨false,[.slice none 0 0,.slice none 0 0]⟩ := blk?_push_eq
 have c6 : blk? H6 H5.length = some ⟨false,[v5,y5]⟩ := by rw [← hH6]; exact blk?_push_eq
 have c36 : blk? H6 H3.length = some ⟨false,[v3,y3]⟩ := by rw [k6 _ (by omega),k5 _ (by omega)]; exact c4
 have keep36 : ∀ {v : Value} {n : Nat} {xs : List Value},OwnS H3 1 v n xs → OwnS H6 1 v n xs := fun {v n xs} ho => own_lv ho fun id hid => by have := ho.lt hid; rw [k6 id (by omega),k5 id (by omega),k4 id this]
 have keep56 : ∀ {v : Value} {n : Nat} {xs : List Value},OwnS H5 1 v n xs → OwnS H6 1 v n xs := fun {v n xs} ho => own_lv ho fun id hid => by have := ho.lt hid; rw [k6 id (by omega)]
 have s1 := fun R => same_i (R := R) (xs := X1) (ys := X1) (keep36 V3.o1).sl (keep56 V5.o1).sl (by omega)
 have s2 := fun R => same_i (R := R) (xs := X2) (ys := X2) (keep36 V3.o2).sl (keep56 V5.o2).sl (by omega)
 simp only [decide_true] at s1 s2
 obtain ⟨va3,vc3,hv3⟩ := V3.o1.sl.shape
 obtain ⟨ya3,yc3,hy3⟩ := V3.o2.sl.shape
 obtain ⟨va5,vc5,hv5⟩ := V5.o1.sl.shape
 obtain ⟨ya5,yc5,hy5⟩ := V5.o2.sl.shape
 have hcL : ¬ (200 : Int) < (cs.length : Int) := hc2
 clear hH4 hH6 V3 V5
 subst hv3 hy3 hv5 hy5
 subst hcv
 simp [k_guard,k_guardU,hH,b0,b1,e1,hcL,b01,b11,e3,p4,s4,c4,b04,b14,e5,p6,s6,c6,c36,s1,s2,ex_eq,fin6]
end
end Go.Proofs.YtjpjohchdfoeaaaGreat
