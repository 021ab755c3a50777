/-
  The source that the block decoder reads a pass from: an arithmetic decoder or a reader of raw bits behind an interface, and the symbols that were read.
  The decoder's passes: questions, signs, what they read.
  The decoder's passes: the significance and the refinement pass.
  The decoder's passes: the cleanup pass.
  The passes of a block, decoded: the plain law.
  Run of the decoder's passes.
  The block encoder, followed: the segments.
  The shape of the passes, how many symbols there are, and what Encode answers: plain.
  The block encoder, followed: Encode.
  Coded blocks: Valid, and whether two are the same.
  The block decoder's reading, followed: the passes of a segment.
  The block decoder's reading, followed: the segments.
  The block decoder's reading: the contract of blockdec.read.
  Coded blocks: whether two are the same, and Truncate.
-/
import Derived.Test.YtjpjohchdfoeaaaGreatSrc
namespace Go.Proofs.YtjpjohchdfoeaaaGreat
open Go Go.Sim
set_option linter.unusedSimpArgs false
set_option linter.unusedVariables false
set_option maxHeartbeats 4000000
set_option maxRecDepth 10000
abbrev ifC (d : Nat) : Value:=.iface 107 (.agg #[ptr d])
abbrev ifW (q : Nat) : Value:=.iface 113 (.agg #[ptr q])
abbrev tbN : Array Value:=#[.int .i64 107,.func (.func 245) #[] #[],.int .i64 113,.func (.func 248) #[] #[]]
inductive Sq (h : Gag) (d pb : Nat) : Value→(Nat→Prop)→AD→Option (List Nat × Nat)→Prop
 | cod {dv : Value} {D : List Nat} {n : Nat} {a : AD} (I : DA h d pb dv D n a) (h19 : a.p.length = 19) (hD : Dig D) (hl : D.length < 100000000) : Sq h d pb (ifC d) (Gf6 d pb dv) a none
 | raw {dv sv : Value} {D xs : List Nat} {n v sz q m : Nat} {st : Bool} {a : AD} (I : DP h d pb dv D n a.p v sz st) (h19 : a.p.length = 19) (hp : Gp1 a.p) (J : RB h q sv xs m) (hd : ∀ id,Gf6 d pb dv id→¬ Gvt q sv id) :
   Sq h d pb (ifW q) (fun id=>Gf6 d pb dv id∨Gvt q sv id) a (some (xs,m))
def Gi6 (a : AD) (raw : Option (List Nat × Nat)) (x : Int) : Nat × AD × Option (List Nat × Nat) :=
 match raw with
 | none=>if 0≤x∧x < 19 then (a.bit x.toNat,a.next x.toNat,none) else (0,a,none)
 | some (xs,m)=>(Gft xs m,a,some (xs,m + 1))
theorem G96 (a : AD) (raw : Option (List Nat × Nat)) (x : Int) : (Gi6 a raw x).1 < 2:=by
 unfold Gi6
 cases raw with
 | none=>simp only; split <;> simp only <;> (try unfold AD.bit) <;> (try split) <;> omega
 | some r=>simp only [Gft]; omega
section
variable {h h' : Gag} {d pb : Nat} {v : Value} {own : Nat→Prop} {a : AD} {raw : Option (List Nat × Nat)}
theorem Sq.own_lt (K : Sq h d pb v own a raw) {id : Nat} (hid : own id) : id < h.length:=by
 cases K with
 | cod I _ _ _=>exact I.dp.own_lt hid
 | raw I _ _ J _ =>
  rcases hid with hid | hid
  ·exact I.own_lt hid
  ·exact J.own_lt hid
theorem Sq.keep (K : Sq h d pb v own a raw) (hk : ∀ id,own id→blk? h' id = blk? h id) : Sq h' d pb v own a raw:=by
 cases K with
 | cod I h1 h2 h3=>exact .cod ⟨I.dp.keep hk,I.rest,I.ok,I.pos⟩ h1 h2 h3
 | raw I h1 hp J h2=>exact .raw (I.keep fun id hid=>hk id (.inl hid)) h1 hp (J.keep fun id hid=>hk id (.inr hid)) h2
theorem Qau (K : Sq h d pb v own a raw) (hm : ∀ xs m,raw = some (xs,m)→m < 100000000) (x : Int) :
  ∃ h',(∀ R : RP,Gc0 tbN [v,.int .i64 x] tab h R = R (.int .i64 ((Gi6 a raw x).1 : Nat)) h')∧Sq h' d pb v own (Gi6 a raw x).2.1 (Gi6 a raw x).2.2∧(∀ id,id < h.length→¬ own id→blk? h' id = blk? h id)∧h.length≤h'.length:=by
 cases K with
 | @cod dv D n _ I h19 hD hl =>
  have lt : ∀ id,Gf6 d pb dv id→id < h.length:=fun id hid=>I.dp.own_lt hid
  have I1 : DA (h++[some ⟨false,[ptr d]⟩]) d pb dv D n a:=⟨I.dp.keep fun id hid=>Gbf (lt id hid),I.rest,I.ok,I.pos⟩
  by_cases hx : 0≤x∧x < 19
  ·obtain ⟨x,rfl⟩:=Int.eq_ofNat_of_zero_le hx.1
   obtain ⟨h',n',e,I2,k2,l2⟩:=G0f I1 (c:=x) (by omega) hD (by omega)
   have ea : Gi6 a none (x : Int) = (a.bit x,a.next x,none):=by unfold Gi6; simp only [hx,and_self,if_true,Int.toNat_natCast]
   rw [ea]
   refine ⟨h',fun R=>?_,.cod I2 (by simp [AD.next,h19]) hD hl,fun id hid hno=>?_,by simp at l2; omega⟩
   ·simp [Gc0,Gfu]
    rw [Gu2,Qey]
    generalize a.bit x = bt at *
    simp [blk?_push_eq,e,G6z]
   ·rw [k2 id (fun y=>hno (.inl y)) (fun y=>hno (.inr (.inl y))),Gbf hid]
  ·have e:=fun R=>Gxe (R:=R) I1 (x:=x) (by omega)
   have ea : Gi6 a none x = (0,a,none):=by unfold Gi6; simp only [hx,if_false]
   rw [ea]
   refine ⟨h++[some ⟨false,[ptr d]⟩],fun R=>?_,.cod I1 h19 hD hl,fun id hid _=>Gbf hid,by simp⟩
   simp [Gc0,Gfu]
   rw [Gu2,Qey]
   simp [blk?_push_eq,e,G6z]
 | @raw dv sv D xs n v sz q m st _ I h19 hp J hd =>
  have hm:=hm xs m rfl
  generalize hG : h++[some (⟨false,[ptr q]⟩ : Blk)] = G
  have lG : G.length = h.length + 1:=by rw [← hG]; simp
  have kG : ∀ id,id < h.length→blk? G id = blk? h id:=fun id hid=>by rw [← hG]; exact blk?_push_lt hid
  have bG : blk? G h.length = some ⟨false,[ptr q]⟩:=by rw [← hG]; exact blk?_push_eq
  have I1 : DP G d pb dv D n a.p v sz st:=I.keep fun id hid=>kG id (I.own_lt hid)
  have J1 : RB G q sv xs m:=J.keep fun id hid=>kG id (J.own_lt hid)
  have e:=fun R=>rget_c (R:=R) J1 hm
  have J2:=J1.next
  have ea : Gi6 a (some (xs,m)) x = (Gft xs m,a,some (xs,m + 1)):=rfl
  rw [ea]
  have hq:=J.own_lt (.inl rfl)
  refine ⟨_,fun R=>?_,.raw (I1.keep fun id hid=>?_) h19 hp J2 hd,fun id hid hno=>?_,by simp; omega⟩
  ·simp [-Int.natCast_add,Gc0,Gfu]
   rw [G3w,B248]
   generalize Gft xs m = bt at *
   simp [-Int.natCast_add,hG,bG,e,fin248]
  ·rw [blk?_set_ne (fun y=>hd id hid (.inl y.symm))]
  ·rw [blk?_set_ne (fun y=>hno (.inr (.inl y.symm))),kG id hid]
end
structure RS where
 a : AD
 raw : Option (List Nat × Nat)
 l : List (Int × Nat)
def RS.ask (s : RS) (x : Int) : Bool × RS:=((Gi6 s.a s.raw x).1 == 1,⟨(Gi6 s.a s.raw x).2.1,(Gi6 s.a s.raw x).2.2,s.l++[(x,(Gi6 s.a s.raw x).1)]⟩)
structure RT where
 v : Value
 own : Nat→Prop
 lv : Value
structure Gyb (d pb k1 k2 c n0 : Nat) (h : Gag) (t : RT) (s : RS) : Prop where
 sq : Sq h d pb t.v t.own s.a s.raw
 b1 : blk? h k1 = some ⟨false,[t.v]⟩
 b2 : blk? h k2 = some ⟨false,[t.lv]⟩
 ol : Ga7 h 2 t.lv s.l.length (Ggt s.l)
 k12 : k1 ≠ k2
 no : ∀ id,t.own id→id ≠ k1∧id ≠ k2∧sid t.lv ≠ some id∧id ≠ c
 nl : ∀ id,sid t.lv = some id→id ≠ k1∧id ≠ k2∧id ≠ c
 nc : k1 ≠ c∧k2 ≠ c
 nb : n0≤50000000
 cnt : ∀ xs m,s.raw = some (xs,m)→m≤n0 + s.l.length
def RT.all (k1 k2 : Nat) (t : RT) (id : Nat) : Prop:=t.own id∨id = k1∨id = k2∨sid t.lv = some id
theorem Gyb.keep {d pb k1 k2 c n0 : Nat} {h h' : Gag} {t : RT} {s : RS} (r : Gyb d pb k1 k2 c n0 h t s) (hk : ∀ id,t.all k1 k2 id→blk? h' id = blk? h id) : Gyb d pb k1 k2 c n0 h' t s :=
 ⟨r.sq.keep fun id hid=>hk id (.inl hid),by rw [hk k1 (.inr (.inl rfl))]; exact r.b1,by rw [hk k2 (.inr (.inr (.inl rfl)))]; exact r.b2,r.ol.of_blk fun id hid hb=>by rw [hk id (.inr (.inr (.inr hid)))]; exact hb,r.k12,r.no,r.nl,r.nc,r.nb,r.cnt⟩
theorem Gyb.all_lt {d pb k1 k2 c n0 : Nat} {h : Gag} {t : RT} {s : RS} (r : Gyb d pb k1 k2 c n0 h t s) {id : Nat} (hid : t.all k1 k2 id) : id < h.length:=by
 rcases hid with hid | rfl | rfl | hid
 ·exact r.sq.own_lt hid
 ·exact blk?_lt r.b1
 ·exact blk?_lt r.b2
 ·exact r.ol.lt hid
theorem Gyb.all_c {d pb k1 k2 c n0 : Nat} {h : Gag} {t : RT} {s : RS} (r : Gyb d pb k1 k2 c n0 h t s) : ¬ t.all k1 k2 c:=by
 rintro (hid | rfl | rfl | hid)
 ·exact (r.no c hid).2.2.2 rfl
 ·exact r.nc.1 rfl
 ·exact r.nc.2 rfl
 ·exact (r.nl c hid).2.2 rfl
theorem isV_of {h : Gag} {d pb : Nat} {v : Value} {own : Nat→Prop} {a : AD} {raw : Option (List Nat × Nat)} (K : Sq h d pb v own a raw) : ∃ t w,v = .iface t w:=by
 cases K <;> exact ⟨_,_,rfl⟩
theorem G0o {d pb k1 k2 c n0 : Nat} {h : Gag} {t : RT} {s : RS} (r : Gyb d pb k1 k2 c n0 h t s) (hs : s.l.length < 1000000) (hcl : c < h.length) (x : Int) :
  ∃ t' h',(∀ R : RP,Ret tab 61 [.int .i64 x,ptr k1,ptr k2] h R = R (.int .i64 ((Gi6 s.a s.raw x).1 : Nat)) h')∧Gyb d pb k1 k2 c n0 h' t' (s.ask x).2∧Stu h h' (t.all k1 k2) (t'.all k1 k2):=by
 obtain ⟨H,e,K,kH,lH⟩:=Qau r.sq (fun xs m hr=>by have:=r.cnt xs m hr; have:=r.nb; omega) x
 have l1:=r.all_lt (.inr (.inl rfl))
 have l2:=r.all_lt (.inr (.inr (.inl rfl)))
 have b1:=r.b1
 have b2 : blk? H k2 = some ⟨false,[t.lv]⟩:=by rw [kH k2 l2 (fun y=>(r.no k2 y).2.1 rfl)]; exact r.b2
 have ol : Ga7 H 2 t.lv s.l.length (Ggt s.l):=r.ol.of_blk fun id hid hb=>by rw [kH id (blk?_lt hb) (fun y=>(r.no id y).2.2.1 hid)]; exact hb
 generalize hbt : (Gi6 s.a s.raw x).1 = bt at *
 have ho' : Ga7 (H++[some ⟨false,[.int .i64 x,.int .i64 (bt : Nat)]⟩]) 2 t.lv s.l.length (Ggt s.l):=ol.of_blk fun id hid hb=>by rw [blk?_push_lt (blk?_lt hb)]; exact hb
 have hts : Sl (H++[some ⟨false,[.int .i64 x,.int .i64 (bt : Nat)]⟩]) 2 (.slice (some ⟨H.length,0,none⟩) 1 2) 1 [.int .i64 x,.int .i64 (bt : Nat)]:=⟨rfl,.inr ⟨H.length,0,rfl,.inr ⟨_,blk?_push_eq,by simp,by simp⟩⟩⟩
 obtain ⟨H1,ha,hb,hHl,hHk⟩:=Gbs (bytes:=16) ho' hts (by unfold Gaq; omega) (by omega) (by omega)
 have hlen : (H++[some (⟨false,[.int .i64 x,.int .i64 (bt : Nat)]⟩ : Blk)]).length = H.length + 1:=by simp
 rw [hlen] at ha hb hHl hHk
 have b21 : blk? H1 k2 = some ⟨false,[t.lv]⟩:=by rw [hHk k2 (by omega) (fun y=>(r.nl k2 y).2.1 rfl),blk?_push_lt (by omega)]; exact b2
 have hk2:=blk?_lt b21
 generalize hH2 : H1.set k2 (some ⟨false,[.slice (some ⟨H.length + 1,0,none⟩) (s.l.length + 1) 2]⟩) = H2
 have lH2 : H2.length = H1.length:=by rw [← hH2]; simp
 have k2' : ∀ id,id < H.length→id ≠ k2→sid t.lv ≠ some id→blk? H2 id = blk? H id:=fun id h1 h2 h3=>by rw [← hH2,blk?_set_ne (Ne.symm h2),hHk id (by omega) h3,blk?_push_lt h1]
 refine ⟨⟨t.v,t.own,.slice (some ⟨H.length + 1,0,none⟩) (s.l.length + 1) 2⟩,H2,fun R=>?_,?_,⟨by omega,fun id hid hno=>?_,fun id hid=>?_⟩⟩
 ·obtain ⟨ty,w,hv⟩:=isV_of r.sq
  rw [hv] at b1 e
  rw [G9t,B61]
  simp [b1,e,b2,Gd4,writeAt,ha,b21,hH2,fin61]
 ·have e1 : (s.ask x).2 = ⟨(Gi6 s.a s.raw x).2.1,(Gi6 s.a s.raw x).2.2,s.l++[(x,bt)]⟩:=by unfold RS.ask; rw [hbt]
  rw [e1]
  refine ⟨K.keep fun id hid=>k2' id (by have:=r.sq.own_lt hid; omega) (r.no id hid).2.1 (r.no id hid).2.2.1,?_,by rw [← hH2]; exact blk?_set_eq hk2,⟨by rw [Gn0],.inr ⟨H.length + 1,by simp,?_⟩⟩,r.k12,fun id hid=>?_,fun id hid=>?_,r.nc,r.nb,fun xs m hm=>?_⟩
  ·rw [k2' k1 (by omega) r.k12 (fun y=>(r.nl k1 y).1 rfl),kH k1 l1 (fun y=>(r.no k1 y).1 rfl)]; exact r.b1
  ·rw [← hH2,blk?_set_ne (by omega),hb]
   simp [Gg3,Ggt]
  ·obtain ⟨q1,q2,q3,q4⟩:=r.no id hid
   have:=r.sq.own_lt hid
   exact ⟨q1,q2,by simp [sid]; omega,q4⟩
  ·simp [sid] at hid
   subst hid
   exact ⟨by omega,by omega,by omega⟩
  ·simp only at hm
   have hcnt:=r.cnt
   unfold Gi6 at hm
   cases hr : s.raw with
   | none=>rw [hr] at hm; simp only at hm; split at hm <;> cases hm
   | some xm =>
    rw [hr] at hm
    obtain ⟨xs',m'⟩:=xm
    simp only [Option.some.injEq,Prod.mk.injEq] at hm
    obtain ⟨rfl,rfl⟩:=hm
    have:=hcnt _ _ hr
    simp only [List.length_append,List.length_singleton]; omega
 ·rw [k2' id (by omega) (fun y=>hno (.inr (.inr (.inl y)))) (fun y=>hno (.inr (.inr (.inr y)))),kH id hid (fun y=>hno (.inl y))]
 ·rcases hid with hid | hid | hid | hid
  ·exact .inl (.inl hid)
  ·exact .inl (.inr (.inl hid))
  ·exact .inl (.inr (.inr (.inl hid)))
  ·simp [sid] at hid; right; omega
def rsSrc (d pb k1 k2 c n0 : Nat) : Src c (Glx (.func (.func 61) #[] #[ptr k1,ptr k2])) where
 S:=RS
 T:=RT
 ask:=RS.ask
 rel:=fun h t s=>Gyb d pb k1 k2 c n0 h t s∧c < h.length
 own:=RT.all k1 k2
 size:=fun s=>s.l.length
 lt:=fun r id hid=>r.1.all_lt hid
 stable:=fun r hl hk=>⟨r.1.keep fun id hid=>hk id (r.1.all_lt hid) (fun e=>r.1.all_c (by rw [← e]; exact hid)),Nat.lt_of_lt_of_le r.2 hl⟩
 size_ask:=fun s x=>by simp [RS.ask]
 step:=fun {h t s} r hs x=>by
  obtain ⟨t',h',e,r',S⟩:=G0o r.1 hs r.2 x
  refine ⟨t',h',(((Gi6 s.a s.raw x).1 : Nat) : Int),fun R=>?_,?_,⟨r',Nat.lt_of_lt_of_le r.2 S.len⟩,S⟩
  ·exact e R
  ·have:=G96 s.a s.raw x
   generalize hb : (Gi6 s.a s.raw x).1 = bt at *
   unfold RS.ask
   rw [hb]
   have : bt = 0∨bt = 1:=by omega
   rcases this with rfl | rfl <;> rfl
 c_own:=fun r=>r.1.all_c
structure PD {c : Nat} {nv : Value} (A : Src c (Glx nv)) (h : Gag) (q p pb nb : Nat) (P : PP) (t : A.T) (b : BS) (s : A.S) : Prop where
 dr : DR h false q p c P (.func (.func 109) #[] #[ptr pb,ptr nb]) b
 pbk : blk? h pb = some ⟨false,[ptr q]⟩
 nbk : blk? h nb = some ⟨false,[nv]⟩
 rel : A.rel h t s
 n1 : c ≠ q∧c ≠ pb∧c ≠ nb∧c ≠ p
 n3 : ¬ A.own t q∧¬ A.own t p∧¬ A.own t pb∧¬ A.own t nb
section
variable {c : Nat} {nv : Value} {A : Src c (Glx nv)} {h : Gag} {q p pb nb : Nat} {P : PP} {t : A.T} {b : BS} {s : A.S}
theorem PD.lts (he : PD A h q p pb nb P t b s) : q < h.length∧p < h.length∧c < h.length∧pb < h.length∧nb < h.length :=
 ⟨blk?_lt he.dr.blk,blk?_lt he.dr.cb.blkp,blk?_lt he.dr.cb.blkc,blk?_lt he.pbk,blk?_lt he.nbk⟩
theorem PD.good (he : PD A h q p pb nb P t b s) : b.Good:=⟨he.dr.cb.ok,he.dr.rng⟩
theorem PD.low (he : PD A h q p pb nb P t b s) {h' : Gag} (hk : ∀ id,id < h.length→blk? h' id = blk? h id) (hl : h.length≤h'.length) : PD A h' q p pb nb P t b s:=by
 obtain ⟨l1,l2,l3,l4,l5⟩:=he.lts
 refine ⟨he.dr.keep (fun id hid=>hk id ?_) (by simp; omega),by rw [hk _ l4]; exact he.pbk,by rw [hk _ l5]; exact he.nbk,A.stable he.rel hl (fun id h1 _=>hk id h1),he.n1,he.n3⟩
 rcases hid with rfl | rfl | rfl <;> assumption
theorem PD.push (he : PD A h q p pb nb P t b s) (x : Option Blk) : PD A (h++[x]) q p pb nb P t b s:=he.low (fun id hid=>blk?_push_lt hid) (by simp)
theorem PD.to (he : PD A h q p pb nb P t b s) {b' : BS} (hb : b.Le b') : PD A (h.set c (some ⟨false,Gco b'.cs⟩)) q p pb nb P t b' s∧Stq h (h.set c (some ⟨false,Gco b'.cs⟩)) c (A.own t) (A.own t):=by
 obtain ⟨l1,l2,l3,l4,l5⟩:=he.lts
 obtain ⟨m1,m2,m3,m4⟩:=he.n1
 refine ⟨⟨⟨?_,?_,by have:=he.dr.fv; simpa using this,he.dr.pok,hb.good.rng⟩,?_,?_,A.stable he.rel (by simp) (fun id _ hc=>blk?_set_ne (Ne.symm hc)),he.n1,he.n3⟩,Stq.setc _ _ _ _⟩
 ·rw [blk?_set_ne m1,hb.w,hb.h]; exact he.dr.blk
 ·exact he.dr.cb.set hb.w hb.h hb.good.ok
 ·rw [blk?_set_ne m2]; exact he.pbk
 ·rw [blk?_set_ne m3]; exact he.nbk
theorem Gta (he : PD A h q p pb nb P t b s) (hn : A.size s < 1000000) (ctx : Int) :
  ∃ t' h',(∀ R,Ret tab 109 [.int .i64 ctx,ptr pb,ptr nb] h R = R (.int .i64 ((A.ask s (P.cx ctx)).1.toNat : Nat)) h')∧PD A h' q p pb nb P t' b (A.ask s (P.cx ctx)).2∧Stq h h' c (A.own t) (A.own t'):=by
 obtain ⟨l1,l2,l3,l4,l5⟩:=he.lts
 obtain ⟨n1,n2,n3,n4⟩:=he.n3
 obtain ⟨t',h',v,e,hv,hr,st⟩:=A.step he.rel hn (P.cx ctx)
 have hfr : ∀ id,id < h.length→¬ A.own t id→¬ A.own t' id:=fun id hid hno ho=>by
  rcases st.fresh id ho with k | k
  ·exact hno k
  ·omega
 refine ⟨t',h',fun R=>?_,⟨he.dr.keep (fun id hid=>?_) (by have:=st.len; simp; omega),by rw [st.same _ l4 n3]; exact he.pbk,by rw [st.same _ l5 n4]; exact he.nbk,hr,he.n1,hfr _ l1 n1,hfr _ l2 n2,hfr _ l4 n3,hfr _ l5 n4⟩,st.q c⟩
 ·have hpb:=he.pbk
  have hpq:=he.dr.blk
  have hnb:=he.nbk
  unfold Glx at e
  rw [G4c,B109]
  generalize (A.ask s (P.cx ctx)).1 = bit at hv
  unfold PP.cx at e
  cases hrw : P.rw
  ·rw [hrw] at e hpq
   simp only [Bool.false_eq_true,if_false] at e
   cases bit <;> simp [hpb,hpq,hnb,e,hv,G7m]
  ·rw [hrw] at e hpq
   simp only [if_true] at e
   cases bit <;> simp [hpb,hpq,hnb,e,hv,G7m]
 ·rcases hid with rfl | rfl | rfl
  ·exact st.same _ l1 n1
  ·exact st.same _ l2 n2
  ·exact st.same _ l3 (A.c_own he.rel)
theorem shl1 {s : Nat} (hs : s≤59) : Gmf .i64 1 (s : Int) = pw s:=by
 have h1:=G6e hs
 have h2:=Guu s
 unfold Gmf
 rw [Int.toNat_natCast,Nat.min_eq_left (by have : IntKind.i64.bits = 64:=rfl; omega),Int.one_mul]
 have e : ((2 : Int) ^ s) = pw s:=by unfold pw; simp
 rw [e]
 exact Gan (by omega) (by omega)
theorem Gxx : Qbx .i64 0 0 = 0:=by decide
theorem Gl7 : Qbx .i64 0 1 = 1:=by decide
theorem Gxw : Qbx .i64 1 0 = 1:=by decide
theorem Gxr : Qbx .i64 1 1 = 0:=by decide
theorem G7z (he : PD A h q p pb nb P t b s) (hn : A.size s < 1000000) {x y : Int} (hi : b.inb x y) :
  ∃ t' h',(∀ R,Ret tab 149 [ptr q,.int .i64 x,.int .i64 y] h R = R (.tuple #[]) h')∧PD A h' q p pb nb P t' ((Gi0 P b x y).run A.ask s).1 ((Gi0 P b x y).run A.ask s).2∧Stq h h' c (A.own t) (A.own t'):=by
 obtain ⟨t1,h1,e1,p1,s1⟩:=Gta he hn (Gct (sgH b x y) (sgV b x y P.cz))
 rw [Gi0,Tr.run_ask,Tr.run_ret]
 generalize hbit : (A.ask s (P.cx (Gct (sgH b x y) (sgV b x y P.cz)))).1 = bit at *
 generalize (A.ask s (P.cx (Gct (sgH b x y) (sgV b x y P.cz)))).2 = s' at *
 have hg:=he.good
 have hdv:=Gwj he.dr.pok b x y bit
 have g1:=Ghn hg hi hdv
 obtain ⟨p2,s2⟩:=p1.to g1
 have g2:=Gdr g1.good (g1.inb hi) Gkh
 obtain ⟨p3,s3⟩:=p2.to g2
 refine ⟨t1,_,fun R=>?_,p3,(s1.trans s2).trans s3⟩
 have hq:=he.dr.blk
 have hq1:=p1.dr.blk
 have hq2:=p2.dr.blk
 have hsc:=fun R=>Qab (R:=R) p1.dr.cb (x:=x) (y:=y) hi hdv
 have hm:=fun R=>G62 (R:=R) p2.dr.cb (x:=x) (y:=y) (g1.inb hi)
 have hc:=fun R=>Gp5 (h:=h) (R:=R) (Gfj (sgn b (x - 1) y) (sgn b (x + 1) y)) (Gfj (sgn b x (y - 1)) (if (!P.cz || y % 4 != 3) = true then sgn b x (y + 1) else 0))
 change ∀ R,Ret tab _ [.int .i64 (sgH b x y),.int .i64 (sgV b x y P.cz)] h R = R (.tuple #[.int .i64 (Gct (sgH b x y) (sgV b x y P.cz)),.int .i64 (Gce (sgH b x y) (sgV b x y P.cz))]) h at hc
 have hs:=fun R=>Gyl (R:=R) he.dr.cb hi P.cz
 have hmm : (fun z : Cell=>({ z with s:=true } : Cell)) = mark:=rfl
 have hvv : (fun z : Cell=>({ z with v:=Gw2 P b x y bit } : Cell)) = G2e (Gw2 P b x y bit):=rfl
 rw [hmm] at hm
 rw [hvv] at hsc
 have hsh:=shl1 he.dr.pok.s1
 have hwu : IntKind.u64.wrap (P.s : Int) = (P.s : Int):=G9n (by have:=he.dr.pok.s1; omega)
 have hs0 : ¬ (P.s : Int) < 0:=by omega
 have hpw:=G6e he.dr.pok.s1
 have hpp:=Guu P.s
 have hneg : IntKind.i64.wrap (0 - pw P.s) = -pw P.s:=by rw [Gan (by omega) (by omega)]; omega
 have hneg2 : IntKind.i64.wrap (-pw P.s) = -pw P.s:=Gan (by omega) (by omega)
 have hfl:=Gk4 (sgH b x y) (sgV b x y P.cz)
 have hdd : Gw2 P b x y bit = if (bit != (!P.rw && Gce (sgH b x y) (sgV b x y P.cz) == 1)) = true then -pw P.s else pw P.s:=rfl
 rw [G3m,B149]
 generalize Gw2 P b x y bit = dv at *
 generalize sgH b x y = H at *
 generalize sgV b x y P.cz = V at *
 generalize pw P.s = pp at *
 have hf' : Gce H V = 0∨Gce H V = 1:=by omega
 cases hrw : P.rw
 ·rw [hrw] at hq hdd
  rcases hf' with hf | hf
  ·rw [hf] at hc hdd
   cases bit
   ·simp at hdd e1 hc
    subst hdd
    simp [hq,hq1,hq2,hs,hc,hwu,hs0,hsh,e1,Gxx,Gl7,Gxw,Gxr,hsc,hm,Gnc]
   ·simp at hdd e1 hc
    subst hdd
    simp [hq,hq1,hq2,hs,hc,hwu,hs0,hsh,e1,Gxx,Gl7,Gxw,Gxr,hneg,hneg2,hsc,hm,Gnc]
  ·rw [hf] at hc hdd
   cases bit
   ·simp at hdd e1 hc
    subst hdd
    simp [hq,hq1,hq2,hs,hc,hwu,hs0,hsh,e1,Gxx,Gl7,Gxw,Gxr,hneg,hneg2,hsc,hm,Gnc]
   ·simp at hdd e1 hc
    subst hdd
    simp [hq,hq1,hq2,hs,hc,hwu,hs0,hsh,e1,Gxx,Gl7,Gxw,Gxr,hneg,hneg2,hsc,hm,Gnc]
 ·rw [hrw] at hq hdd
  cases bit
  ·simp at hdd e1 hc
   subst hdd
   simp [hq,hq1,hq2,hs,hc,hwu,hs0,hsh,e1,Gxx,Gl7,Gxw,Gxr,hneg,hneg2,hsc,hm,Gnc]
  ·simp at hdd e1 hc
   subst hdd
   simp [hq,hq1,hq2,hs,hc,hwu,hs0,hsh,e1,Gxx,Gl7,Gxw,Gxr,hneg,hneg2,hsc,hm,Gnc]
theorem G7b (he : PD A h q p pb nb P t b s) (hn : A.size s + 2 < 1000000) {x y : Int} (hi : b.inb x y) :
  ∃ t' h',(∀ R,Ret tab 142 [ptr q,.int .i64 x,.int .i64 y] h R = R (.tuple #[]) h')∧PD A h' q p pb nb P t' ((Gig P b x y).run A.ask s).1 ((Gig P b x y).run A.ask s).2∧Stq h h' c (A.own t) (A.own t'):=by
 obtain ⟨t1,h1,e1,p1,s1⟩:=Gta he (by omega) (Gf1 P b x y)
 have hsz:=A.size_ask s (P.cx (Gf1 P b x y))
 rw [Gig,Tr.run_ask]
 generalize (A.ask s (P.cx (Gf1 P b x y))).1 = bit at *
 generalize (A.ask s (P.cx (Gf1 P b x y))).2 = s' at *
 have hq:=he.dr.blk
 have hq1:=p1.dr.blk
 obtain ⟨n1,n2,n3⟩:=G08 b x y P.cz
 have hnb:=fun R=>Gfg (R:=R) he.dr.cb hi P.cz
 have hsg:=fun R=>Ggq (h:=h) (R:=R) he.dr.pok.o1 n1 n2 n3
 change ∀ R,Ret tab _ _ h R = R (.int .i64 (Gf1 P b x y)) h at hsg
 cases bit
 ·refine ⟨t1,h1,fun R=>?_,p1,s1⟩
  simp at e1
  rw [Gu1,Qe3]
  simp [hq,hq1,hnb,hsg,e1,G8d,book,Gd0,Gb5,Ghw,Gbq,Gcg]
 ·obtain ⟨t2,h2,e2,p2,s2⟩:=G7z p1 (by omega) hi
  refine ⟨t2,h2,fun R=>?_,p2,s1.trans s2⟩
  simp at e1
  rw [Gu1,Qe3]
  simp [hq,hq1,hnb,hsg,e1,e2,G8d,book,Gd0,Gb5,Ghw,Gbq,Gcg]
end
section
variable {h : Gag} {f : Bool} {q p c : Nat} {P : PP} {fv : Value} {b : BS} {x y : Int} {R : RP}
theorem Ge9 (hr : DR h f q p c P fv b) (hi : b.inb x y) : Ret tab 141 [ptr q,.int .i64 x,.int .i64 y] h R = R (.bool (Gg8 b x y P.cz)) h:=by
 have hq:=hr.frz.blk
 have hlq:=blk?_lt hr.blk
 obtain ⟨n1,n2,n3⟩:=G08 b x y P.cz
 have s1 : IntKind.i64.wrap ((nbH b x y : Int) + (nbV b x y P.cz : Int)) = ((nbH b x y + nbV b x y P.cz : Nat) : Int):=Gfq (by omega)
 have s2 : IntKind.i64.wrap (((nbH b x y + nbV b x y P.cz : Nat) : Int) + (nbD b x y P.cz : Int)) = ((nbH b x y + nbV b x y P.cz + nbD b x y P.cz : Nat) : Int):=Gfq (by omega)
 have s3 : decide ((0 : Int) < ((nbH b x y + nbV b x y P.cz + nbD b x y P.cz : Nat) : Int)) = Gg8 b x y P.cz:=by
  rw [G02]; congr 1; exact propext Int.natCast_pos
 rw [G4d,B141]
 generalize hn : Gg8 b x y P.cz = nn at *
 simp [-Int.natCast_add,-Int.natCast_pos,hq,hlq,Gfg hr.frz.cb hi,s1,s2,s3,fin141]
theorem Gs2 (hr : DR h true q p c P fv b) {x : Int} (hx : 0≤x∧x < b.w) {top : Int} (ht : 0≤top∧top + 4≤b.h) {k : List Ga1} {R : RP} {v6 : Value}
  (hk : ∀ K3 K4 K5 K7 K8 K9 Ka Kb Kc Kd Ke Kf Kg Kh Ki Kj Kk Kl Km Kn Ko Kp Kq Kr Ks Kt Ku Kv Kw Kx Ky Kz J0 J1 J2 J3 J4 J5 J6 J7 : Value,Ok tab G97 k #[ptr q,.int .i64 x,.int .i64 top,K3,K4,K5,v6,K7,K8,K9,Ka,Kb,Kc,Kd,Ke,Kf,Kg,Kh,Ki,Kj,Kk,Kl,Km,Kn,Ko,Kp,Kq,Kr,Ks,Kt,Ku,Kv,Kw,Kx,Ky,Kz,J0,J1,J2,J3,J4,J5,J6,J7] h R = R (.bool true) h) :
  ∀ (n : Nat) (y : Int) (K3 K4 K5 K8 K9 Ka Kb Kc Kd Ke Kf Kg Kh Ki Kj Kk Kl Km Kn Ko Kp Kq Kr Ks Kt Ku Kv Kw Kx Ky Kz J0 J1 J2 J3 J4 J5 J6 J7 : Value),y + n = top + 4→top≤y →
   Ok tab G97 (.inLoop Guf :: .inBlock 0 :: k) #[ptr q,.int .i64 x,.int .i64 top,K3,K4,K5,v6,.int .i64 y,K8,K9,Ka,Kb,Kc,Kd,Ke,Kf,Kg,Kh,Ki,Kj,Kk,Kl,Km,Kn,Ko,Kp,Kq,Kr,Ks,Kt,Ku,Kv,Kw,Kx,Ky,Kz,J0,J1,J2,J3,J4,J5,J6,J7] h R = R (.bool (Ga8 b x y P.cz n)) h:=by
 intro n
 induction n with
 | zero =>
  intro y;intros;rename_i hy hty
  have hw : IntKind.i64.wrap (top + 4) = top + 4:=Gan (by have:=hr.cb.ok.h2; omega) (by have:=hr.cb.ok.h2; omega)
  have hlt : ¬ y < top + 4:=by omega
  rw [Gad,G8c,Gn7,Got]
  simp [hw,hlt,hk,Ga8]
 | succ n ih =>
  intro y;intros;rename_i hy hty
  have hb2:=hr.cb.ok.h2
  have hw : IntKind.i64.wrap (top + 4) = top + 4:=Gan (by omega) (by omega)
  have hw1 : IntKind.i64.wrap (y + 1) = y + 1:=Gan (by omega) (by omega)
  have hlt : y < top + 4:=by omega
  have hi : b.inb x y:=⟨hx.1,hx.2,by omega,by omega⟩
  have hq:=hr.blk
  have ih':=fun K3 K4 K5 K8 K9 Ka Kb Kc Kd Ke Kf Kg Kh Ki Kj Kk Kl Km Kn Ko Kp Kq Kr Ks Kt Ku Kv Kw Kx Ky Kz J0 J1 J2 J3 J4 J5 J6 J7=>ih (y + 1) K3 K4 K5 K8 K9 Ka Kb Kc Kd Ke Kf Kg Kh Ki Kj Kk Kl Km Kn Ko Kp Kq Kr Ks Kt Ku Kv Kw Kx Ky Kz J0 J1 J2 J3 J4 J5 J6 J7 (by omega) (by omega)
  rw [Gad,G8c,Gn7,Got]
  cases hs : (b.get x y).s
  ·cases ht : (b.get x y).t
   ·cases hn : Gg8 b x y P.cz
    ·simp [Gaa,hw,hw1,hlt,hq,Gay hr.cb,Gcf hr.cb,Ge9 hr hi,hs,ht,hn,ih',Ga8,still]
    ·simp [Gaa,hw,hw1,hlt,hq,Gay hr.cb,Gcf hr.cb,Ge9 hr hi,hs,ht,hn,Ga8,still,Gqg]
   ·simp [Gaa,Gah,hw,hw1,hlt,hq,Gay hr.cb,Gcf hr.cb,hs,ht,Ga8,still,Gqg]
  ·simp [Gaa,Gah,hw,hw1,hlt,hq,Gay hr.cb,hs,Ga8,still,Gqg]
theorem Qaa (hr : DR h f q p c P fv b) {x top : Int} (hx : 0≤x∧x < b.w) (ht : 0≤top∧top < b.h) : Ret tab 148 [ptr q,.int .i64 x,.int .i64 top] h R = R (.bool (quiet b x top P.cz)) h:=by
 have hq:=hr.frz.blk
 have hlq:=blk?_lt hr.blk
 have hb2:=hr.cb.ok.h2
 have hw : IntKind.i64.wrap (top + 4) = top + 4:=Gan (by omega) (by omega)
 rw [G4v,B148]
 by_cases h4 : top + 4≤b.h
 ·have h4' : ¬ (b.h : Int) < top + 4:=by omega
  have:=fun K3 K4 K5 K8 K9 Ka Kb Kc Kd Ke Kf Kg Kh Ki Kj Kk Kl Km Kn Ko Kp Kq Kr Ks Kt Ku Kv Kw Kx Ky Kz J0 J1 J2 J3 J4 J5 J6 J7 v6 R hk=>Gs2 (R:=R) (v6:=v6) hr.frz hx ⟨ht.1,h4⟩ (k:=[.code ((RCode.region [⟨some 6,.mov (.const (.bool true)),none⟩] []).seq .ret)]) hk 4 top K3 K4 K5 K8 K9 Ka Kb Kc Kd Ke Kf Kg Kh Ki Kj Kk Kl Km Kn Ko Kp Kq Kr Ks Kt Ku Kv Kw Kx Ky Kz J0 J1 J2 J3 J4 J5 J6 J7 (by omega) (by omega)
  simp [hq,hlq,hw,h4']
  rw [this]
  ·simp [quiet,h4]
  ·intros
   simp [Gqg]
 ·have h4' : (b.h : Int) < top + 4:=by omega
  simp [hq,hlq,hw,h4',quiet,h4,Gqg]
end
section
variable {c : Nat} {nv : Value} {A : Src c (Glx nv)} {h : Gag} {q p pb nb : Nat} {P : PP} {t : A.T} {b : BS} {s : A.S}
theorem grow_d (he : PD A h q p pb nb P t b s) {x y : Int} (hi : b.inb x y) :
  ∃ h',(∀ R,Ret tab 146 [ptr q,.int .i64 x,.int .i64 y] h R = R (.tuple #[]) h')∧PD A h' q p pb nb P t (grow P.s b x y) s∧Stq h h' c (A.own t) (A.own t)∧∀ id,id < h.length→id ≠ c→blk? h' id = blk? h id:=by
 have hg:=he.good
 obtain ⟨r1,r2⟩:=he.dr.rng x y
 have hq:=he.dr.blk
 have hsh:=shl1 he.dr.pok.s1
 have hwu : IntKind.u64.wrap (P.s : Int) = (P.s : Int):=G9n (by have:=he.dr.pok.s1; omega)
 have hs0 : ¬ (P.s : Int) < 0:=by omega
 have hpw:=G6e he.dr.pok.s1
 have hpp:=Guu P.s
 have hneg : IntKind.i64.wrap (0 - pw P.s) = -pw P.s:=by rw [Gan (by omega) (by omega)]; omega
 have hneg2 : IntKind.i64.wrap (-pw P.s) = -pw P.s:=Gan (by omega) (by omega)
 have hv:=fun R=>Gn8 (R:=R) (x:=x) (y:=y) he.dr.cb
 have hgv : Glu P.s (b.get x y).v = (b.get x y).v + if (b.get x y).v < 0 then -pw P.s else pw P.s:=rfl
 have hvv : ∀ v,(fun z : Cell=>({ z with v:=v } : Cell)) = G2e v:=fun v=>rfl
 unfold grow
 by_cases hin : -1152921504606846976 < Glu P.s (b.get x y).v∧Glu P.s (b.get x y).v < 1152921504606846976
 ·rw [if_pos hin]
  have g1:=Ghn hg hi hin
  obtain ⟨p2,s2⟩:=he.to g1
  refine ⟨_,fun R=>?_,p2,s2,fun id _ hc=>blk?_set_ne (Ne.symm hc)⟩
  have hsc:=fun R=>Qab (R:=R) he.dr.cb (x:=x) (y:=y) hi hin
  rw [hvv] at hsc
  generalize hG : Glu P.s (b.get x y).v = G at *
  rw [Guz,Qe4]
  by_cases hlt : (b.get x y).v < 0
  ·rw [if_pos hlt] at hgv
   have hw : IntKind.i64.wrap ((b.get x y).v + -pw P.s) = G:=by rw [Gan (by omega) (by omega)]; omega
   generalize (b.get x y).v = v at *
   generalize pw P.s = pp at *
   simp [Gaa,hq,hv,hwu,hs0,hsh,hlt,hneg,hneg2,hw,hin.1,hin.2,hsc,Gma,book,Gd0,Gb5,Ghw,Gbq,Gcg]
  ·rw [if_neg hlt] at hgv
   have hw : IntKind.i64.wrap ((b.get x y).v + pw P.s) = G:=by rw [Gan (by omega) (by omega)]; omega
   generalize (b.get x y).v = v at *
   generalize pw P.s = pp at *
   simp [Gaa,hq,hv,hwu,hs0,hsh,hlt,hneg,hneg2,hw,hin.1,hin.2,hsc,Gma,book,Gd0,Gb5,Ghw,Gbq,Gcg]
 ·rw [if_neg hin]
  refine ⟨h,fun R=>?_,he,Stq.refl _ _ _,fun _ _ _=>rfl⟩
  generalize hG : Glu P.s (b.get x y).v = G at *
  rw [Guz,Qe4]
  by_cases hlt : (b.get x y).v < 0
  ·rw [if_pos hlt] at hgv
   have hw : IntKind.i64.wrap ((b.get x y).v + -pw P.s) = G:=by rw [Gan (by omega) (by omega)]; omega
   generalize (b.get x y).v = v at *
   generalize pw P.s = pp at *
   by_cases h1 : -1152921504606846976 < G
   ·have h2 : ¬ G < 1152921504606846976:=fun e=>hin ⟨h1,e⟩
    simp [Gaa,hq,hv,hwu,hs0,hsh,hlt,hneg,hneg2,hw,h1,h2,Gma,book,Gd0,Gb5,Ghw,Gbq,Gcg]
   ·simp [Gaa,Gah,hq,hv,hwu,hs0,hsh,hlt,hneg,hneg2,hw,h1,Gma,book,Gd0,Gb5,Ghw,Gbq,Gcg]
  ·rw [if_neg hlt] at hgv
   have hw : IntKind.i64.wrap ((b.get x y).v + pw P.s) = G:=by rw [Gan (by omega) (by omega)]; omega
   generalize (b.get x y).v = v at *
   generalize pw P.s = pp at *
   by_cases h1 : -1152921504606846976 < G
   ·have h2 : ¬ G < 1152921504606846976:=fun e=>hin ⟨h1,e⟩
    simp [Gaa,hq,hv,hwu,hs0,hsh,hlt,hneg,hneg2,hw,h1,h2,Gma,book,Gd0,Gb5,Ghw,Gbq,Gcg]
   ·simp [Gaa,Gah,hq,hv,hwu,hs0,hsh,hlt,hneg,hneg2,hw,h1,Gma,book,Gd0,Gb5,Ghw,Gbq,Gcg]
end
structure Fad (h : Gag) (s : Value) (l : List (Int × Int)) (c : Nat) (O : Nat→Prop) : Prop where
 sl : Sl h 2 s l.length (Gje l)
 far : ∀ id,sid s = some id→id < h.length∧id ≠ c∧¬ O id
theorem Fad.stq {h h' : Gag} {s : Value} {l : List (Int × Int)} {c : Nat} {O O' : Nat→Prop} (hf : Fad h s l c O) (hs : Stq h h' c O O') : Fad h' s l c O':=by
 refine ⟨hf.sl.of_sid fun id b hid hb=>?_,fun id hid=>?_⟩
 ·obtain ⟨a1,a2,a3⟩:=hf.far id hid
  rw [hs.same id a1 a2 a3]; exact hb
 ·obtain ⟨a1,a2,a3⟩:=hf.far id hid
  refine ⟨Nat.lt_of_lt_of_le a1 hs.len,a2,fun e=>?_⟩
  rcases hs.fresh id e with h | h
  ·exact a3 h
  ·omega
theorem Fad.get {h : Gag} {s : Value} {l : List (Int × Int)} {c : Nat} {O : Nat→Prop} (hf : Fad h s l c O) {i : Nat} (hi : i < l.length) :
  ∃ id off b,s = .slice (some ⟨id,off,none⟩) l.length 2∧blk? h id = some b∧(b.cells.drop (off + i * 2)).take 2 = [.int .i64 l[i].1,.int .i64 l[i].2]∧off + i * 2 + 2≤b.cells.length:=by
 obtain ⟨id,off,b,rfl,hb,hc⟩:=hf.sl.get hi
 obtain ⟨g0,g1⟩:=Gns l i hi
 have c0:=hc 0 (by omega)
 have c1:=hc 1 (by omega)
 rw [Nat.add_zero,Nat.add_zero,g0] at c0
 rw [g1] at c1
 obtain ⟨ht,hle⟩:=two c0 c1
 exact ⟨id,off,b,rfl,hb,ht,hle⟩
section
variable {c : Nat} {nv : Value} {A : Src c (Glx nv)} {h : Gag} {q p pb nb : Nat} {P : PP} {t : A.T} {b : BS} {s : A.S}
theorem PD.scan (he : PD A h q p pb nb P t b s) : ∃ sl h',(∀ R,Ret tab 139 [.int .i64 b.w,.int .i64 b.h] h R = R sl h')∧PD A h' q p pb nb P t b s∧Stq h h' c (A.own t) (A.own t)∧Fad h' sl (scan b.w b.h) c (A.own t):=by
 have ho:=he.dr.cb.ok
 obtain ⟨l1,l2,l3,l4,l5⟩:=he.lts
 obtain ⟨s1,h',e,m⟩:=G7x ho.w1 ho.w2 ho.h1 ho.h2 h
 refine ⟨s1,h',e,he.low m.low m.len,Stq.low m.low m.len c _,⟨m.own.sl,fun id hid=>?_⟩⟩
 have h1:=m.far id hid
 refine ⟨?_,by omega,fun e=>by have:=A.lt he.rel id e; omega⟩
 rcases m.own.2 with ⟨rfl,_⟩ | ⟨id',rfl,hb⟩
 ·simp [sid] at hid
 ·simp [sid] at hid; subst hid; exact blk?_lt hb
theorem G0x {sl : Value} {pts : List (Int × Int)} {k : List Ga1} {R : RP} :
  ∀ (m i : Nat) (h : Gag) (t : A.T) (b : BS) (s : A.S) (K1 K2 K3 K4 K5 K6 K7 K8 K9 Ka Kb Kf Kg Kh Ki Kj Kk Kl Km Kn Ko Kp Kq Kr Ks Kt Ku Kv Kw Kx Ky Kz J0 J1 J2 J3 J4 J5 J6 J7 J8 J9 Ja Jb Jc Jd Je Jf : Value),m = pts.length - i→i≤pts.length→PD A h q p pb nb P t b s→Fad h sl pts c (A.own t)→Gca b pts→A.size s + 2 * m + 3 < 1000000→pts.length < 1000000 →
   (∀ (h' : Gag) (t' : A.T) (K1 K2 K3 K4 K5 K6 K7 K8 K9 Ka Kb Kc Kd Ke Kf Kg Kh Ki Kj Kk Kl Km Kn Ko Kp Kq Kr Ks Kt Ku Kv Kw Kx Ky Kz J0 J1 J2 J3 J4 J5 J6 J7 J8 J9 Ja Jb Jc Jd Je Jf : Value),PD A h' q p pb nb P t' ((Ggx P b (pts.drop i)).run A.ask s).1 ((Ggx P b (pts.drop i)).run A.ask s).2→Stq h h' c (A.own t) (A.own t')→Ok tab G67 k #[ptr q,K1,K2,K3,K4,K5,K6,K7,K8,K9,Ka,Kb,Kc,Kd,Ke,Kf,Kg,Kh,Ki,Kj,Kk,Kl,Km,Kn,Ko,Kp,Kq,Kr,Ks,Kt,Ku,Kv,Kw,Kx,Ky,Kz,J0,J1,J2,J3,J4,J5,J6,J7,J8,J9,Ja,Jb,Jc,Jd,Je,Jf] h' R) →
   Ok tab G67 (.inLoop Gq4 :: .inBlock 0 :: k) #[ptr q,K1,K2,K3,K4,K5,K6,K7,K8,K9,Ka,Kb,sl,.int .i64 pts.length,.int .i64 i,Kf,Kg,Kh,Ki,Kj,Kk,Kl,Km,Kn,Ko,Kp,Kq,Kr,Ks,Kt,Ku,Kv,Kw,Kx,Ky,Kz,J0,J1,J2,J3,J4,J5,J6,J7,J8,J9,Ja,Jb,Jc,Jd,Je,Jf] h R:=by
 intro m
 induction m with
 | zero =>
  intro i h t b s;intros;rename_i hm hi he hf ha hl hpl hk
  have hlt : ¬ ((i : Int) < pts.length):=by omega
  rw [Gad,G6u,Gnu,Gn9]
  simp [hlt]
  refine hk h t _ _ _ _ _ _ _ _ _ _ _ _ _ _ _ _ _ _ _ _ _ _ _ _ _ _ _ _ _ _ _ _ _ _ _ _ _ _ _ _ _ _ _ _ _ _ _ _ _ _ _ ?_ (Stq.refl _ _ _)
  rw [List.drop_of_length_le (by omega)]; exact he
 | succ m ih =>
  intro i h t b s;intros;rename_i hm hi he hf ha hl hpl hk
  have hlt : ((i : Int) < pts.length):=by omega
  have hw : IntKind.i64.wrap ((i : Int) + 1) = (i : Int) + 1:=Gbc (n:=i + 1) (by omega)
  have hil : i < pts.length:=by omega
  obtain ⟨id,off,blk,hs,hb,ht,hle⟩:=hf.get hil
  have hin:=ha _ (List.getElem_mem hil)
  have hsp : Ggx P b (pts.drop i) = (Gh0 P b pts[i].1 pts[i].2).bind fun b=>Ggx P b (pts.drop (i + 1)):=by
   rw [List.drop_eq_getElem_cons hil]; rfl
  have hlv:=Gwa he.dr.pok he.good hin
  obtain ⟨hle1,hsz1⟩:=Tr.Lv.out (A:=A.ask) (size:=A.size) A.size_ask s hlv
  generalize hx : pts[i].1 = x at *
  generalize hy : pts[i].2 = y at *
  rw [hsp] at hk
  simp only [Tr.run_bind] at hk
  have he2:=he.push (some ⟨false,[.int .i64 x,.int .i64 y]⟩)
  have hs2:=Stq.push h (some ⟨false,[.int .i64 x,.int .i64 y]⟩) c (A.own t)
  have hf2:=hf.stq hs2
  have hK : ∀ y : Blk,blk? (h++[some y]) h.length = some y:=fun y=>blk?_push_eq
  obtain ⟨l1,l2,l3,l4,l5⟩:=he.lts
  have hq2:=he2.dr.blk
  have hcb2:=he2.dr.cb
  have hsig:=fun R=>Gay (R:=R) (x:=x) (y:=y) hcb2
  have hnb:=fun R=>Ge9 (R:=R) (x:=x) (y:=y) he2.dr hin
  have hskip : Gh0 P b x y = .ret b→∀ K1 K2 K3 K4 K5 K6 K7 K8 K9 Ka Kb Kf Kg Kh Ki Kj Kk Kl Km Kn Ko Kp Kq Kr Ks Kt Ku Kv Kw Kx Ky Kz J0 J1 J2 J3 J4 J5 J6 J7 J8 J9 Ja Jb Jc Jd Je Jf : Value,Ok tab G67 (.inLoop Gq4 :: .inBlock 0 :: k) #[ptr q,K1,K2,K3,K4,K5,K6,K7,K8,K9,Ka,Kb,sl,.int .i64 pts.length,.int .i64 ((i : Int) + 1),Kf,Kg,Kh,Ki,Kj,Kk,Kl,Km,Kn,Ko,Kp,Kq,Kr,Ks,Kt,Ku,Kv,Kw,Kx,Ky,Kz,J0,J1,J2,J3,J4,J5,J6,J7,J8,J9,Ja,Jb,Jc,Jd,Je,Jf] (h++[some ⟨false,[.int .i64 x,.int .i64 y]⟩]) R:=by
   intro h1;intros
   rw [h1] at hk
   refine ih (i + 1) _ t b s _ _ _ _ _ _ _ _ _ _ _ _ _ _ _ _ _ _ _ _ _ _ _ _ _ _ _ _ _ _ _ _ _ _ _ _ _ _ _ _ _ _ _ _ _ _ _ _ (by omega) (by omega) he2 hf2 ha (by omega) hpl ?_
   intro h' t';intros;rename_i pe st
   exact hk h' t' _ _ _ _ _ _ _ _ _ _ _ _ _ _ _ _ _ _ _ _ _ _ _ _ _ _ _ _ _ _ _ _ _ _ _ _ _ _ _ _ _ _ _ _ _ _ _ _ _ _ _ pe (hs2.trans st)
  rw [Gad,G6u,Gnu,Gn9]
  cases hsg : (b.get x y).s
  ·cases hnr : Gg8 b x y P.cz
   ·have h1 : Gh0 P b x y = .ret b:=by unfold Gh0; rw [if_neg (by simp [hnr])]
    rw [hsg] at hsig; rw [hnr] at hnb
    simp [-List.cons_append,-List.append_assoc,Gaa,hlt,hw,hs,hb,ht,hle,hK,hq2,hsig,hnb]
    rw [← hs]
    exact hskip h1 ..
   ·obtain ⟨t3,h3,e3,p3,s3⟩:=G7b he2 (by omega) hin
    obtain ⟨hc1,hc2⟩:=Tr.Lv.out (A:=A.ask) (size:=A.size) A.size_ask s (Goa he.dr.pok he.good hin)
    have h1 : Gh0 P b x y = (Gig P b x y).bind fun b=>.ret (b.upd x y (Gbz true)):=by unfold Gh0; rw [if_pos ⟨hsg,hnr⟩]
    rw [h1] at hk hle1 hsz1
    simp only [Tr.run_bind,Tr.run_ret] at hk hle1 hsz1
    generalize ((Gig P b x y).run A.ask s).1 = b3 at *
    generalize ((Gig P b x y).run A.ask s).2 = s3' at *
    have hq3:=p3.dr.blk
    have hv3 : blk? h3 h.length = some ⟨false,[.int .i64 x,.int .i64 y]⟩:=by
     rw [s3.same h.length (by simp) (by omega) (fun e=>by have:=A.lt he.rel _ e; omega)]; exact blk?_push_eq
    have htc:=fun R=>Ghy (R:=R) (v:=true) p3.dr.cb (x:=x) (y:=y) (hc1.inb hin)
    obtain ⟨p4,s4⟩:=p3.to (Gdr hc1.good (hc1.inb hin) (Gbh true))
    have hmm : (fun z : Cell=>({ z with t:=true } : Cell)) = Gbz true:=rfl
    rw [hmm] at htc
    rw [hsg] at hsig; rw [hnr] at hnb
    simp [-List.cons_append,-List.append_assoc,Gaa,hlt,hw,hs,hb,ht,hle,hK,hq2,hsig,hnb,e3,hq3,hv3,htc]
    rw [← hs]
    have st4:=(hs2.trans s3).trans s4
    refine ih (i + 1) _ t3 _ _ _ _ _ _ _ _ _ _ _ _ _ _ _ _ _ _ _ _ _ _ _ _ _ _ _ _ _ _ _ _ _ _ _ _ _ _ _ _ _ _ _ _ _ _ _ _ _ _ (by omega) (by omega) p4 (hf.stq st4) (hle1.all ha) (by omega) hpl ?_
    intro h' t';intros;rename_i pe st
    exact hk h' t' _ _ _ _ _ _ _ _ _ _ _ _ _ _ _ _ _ _ _ _ _ _ _ _ _ _ _ _ _ _ _ _ _ _ _ _ _ _ _ _ _ _ _ _ _ _ _ _ _ _ _ pe (st4.trans st)
  ·have h1 : Gh0 P b x y = .ret b:=by unfold Gh0; rw [if_neg (by simp [hsg])]
   rw [hsg] at hsig
   simp [-List.cons_append,-List.append_assoc,Gaa,hlt,hw,hs,hb,ht,hle,hK,hq2,hsig]
   rw [← hs]
   exact hskip h1 ..
theorem Gl1 (he : PD A h q p pb nb P t b s) (hl : A.size s + 100000 < 1000000) :
  ∃ t' h',(∀ R,Ret tab 110 [ptr q] h R = R (.tuple #[]) h')∧PD A h' q p pb nb P t' ((Ggx P b (scan b.w b.h)).run A.ask s).1 ((Ggx P b (scan b.w b.h)).run A.ask s).2∧Stq h h' c (A.own t) (A.own t'):=by
 have key : Ret tab 110 [ptr q] h fun v h'=>v = .tuple #[]∧∃ t',PD A h' q p pb nb P t' ((Ggx P b (scan b.w b.h)).run A.ask s).1 ((Ggx P b (scan b.w b.h)).run A.ask s).2∧Stq h h' c (A.own t) (A.own t'):=by
  obtain ⟨sl,h1,e1,p1,s1,f1⟩:=he.scan
  obtain ⟨a,cc,hs⟩:=f1.sl.shape
  have hsl:=Ggk he.dr.cb.ok.w2 he.dr.cb.ok.h2
  have hq:=he.dr.blk
  rw [G5j,B110]
  simp [hq,e1,hs]
  rw [← hs]
  refine G0x _ 0 h1 t b s _ _ _ _ _ _ _ _ _ _ _ _ _ _ _ _ _ _ _ _ _ _ _ _ _ _ _ _ _ _ _ _ _ _ _ _ _ _ _ _ _ _ _ _ _ _ _ _ rfl (by omega) p1 f1 (Gc3 b) (by omega) (by omega) ?_
  intro h' t';intros;rename_i pe st
  simp [fin110]
  exact ⟨t',by simpa using pe,s1.trans st⟩
 obtain ⟨v,h',e,rfl,t',pe,st⟩:=Gck key
 exact ⟨t',h',e,pe,st⟩
theorem G0q {sl : Value} {pts : List (Int × Int)} {k : List Ga1} {R : RP} :
  ∀ (m i : Nat) (h : Gag) (t : A.T) (b : BS) (s : A.S) (K1 K2 K3 K4 K5 K6 K7 K8 K9 Ka Kb Kf Kg Kh Ki Kj Kk Kl Km Kn Ko Kp Kq Kr Ks Kt Ku Kv Kw Kx Ky Kz J0 J1 J2 J3 J4 J5 J6 J7 J8 J9 Ja Jb Jc Jd Je Jf Jg Jh Ji Jj Jk Jl Jm Jn Jo Jp Jq Jr Js Jt Ju Jv Jw Jx Jy Jz Y0 Y1 Y2 Y3 Y4 Y5 Y6 Y7 Y8 Y9 Ya Yb Yc Yd Ye : Value),m = pts.length - i→i≤pts.length→PD A h q p pb nb P t b s→Fad h sl pts c (A.own t)→Gca b pts→A.size s + 2 * m + 3 < 1000000→pts.length < 1000000 →
   (∀ (h' : Gag) (t' : A.T) (K1 K2 K3 K4 K5 K6 K7 K8 K9 Ka Kb Kc Kd Ke Kf Kg Kh Ki Kj Kk Kl Km Kn Ko Kp Kq Kr Ks Kt Ku Kv Kw Kx Ky Kz J0 J1 J2 J3 J4 J5 J6 J7 J8 J9 Ja Jb Jc Jd Je Jf Jg Jh Ji Jj Jk Jl Jm Jn Jo Jp Jq Jr Js Jt Ju Jv Jw Jx Jy Jz Y0 Y1 Y2 Y3 Y4 Y5 Y6 Y7 Y8 Y9 Ya Yb Yc Yd Ye : Value),PD A h' q p pb nb P t' ((Ggy P b (pts.drop i)).run A.ask s).1 ((Ggy P b (pts.drop i)).run A.ask s).2→Stq h h' c (A.own t) (A.own t')→Ok tab G2n k #[ptr q,K1,K2,K3,K4,K5,K6,K7,K8,K9,Ka,Kb,Kc,Kd,Ke,Kf,Kg,Kh,Ki,Kj,Kk,Kl,Km,Kn,Ko,Kp,Kq,Kr,Ks,Kt,Ku,Kv,Kw,Kx,Ky,Kz,J0,J1,J2,J3,J4,J5,J6,J7,J8,J9,Ja,Jb,Jc,Jd,Je,Jf,Jg,Jh,Ji,Jj,Jk,Jl,Jm,Jn,Jo,Jp,Jq,Jr,Js,Jt,Ju,Jv,Jw,Jx,Jy,Jz,Y0,Y1,Y2,Y3,Y4,Y5,Y6,Y7,Y8,Y9,Ya,Yb,Yc,Yd,Ye] h' R) →
   Ok tab G2n (.inLoop Gmm :: .inBlock 0 :: k) #[ptr q,K1,K2,K3,K4,K5,K6,K7,K8,K9,Ka,Kb,sl,.int .i64 pts.length,.int .i64 i,Kf,Kg,Kh,Ki,Kj,Kk,Kl,Km,Kn,Ko,Kp,Kq,Kr,Ks,Kt,Ku,Kv,Kw,Kx,Ky,Kz,J0,J1,J2,J3,J4,J5,J6,J7,J8,J9,Ja,Jb,Jc,Jd,Je,Jf,Jg,Jh,Ji,Jj,Jk,Jl,Jm,Jn,Jo,Jp,Jq,Jr,Js,Jt,Ju,Jv,Jw,Jx,Jy,Jz,Y0,Y1,Y2,Y3,Y4,Y5,Y6,Y7,Y8,Y9,Ya,Yb,Yc,Yd,Ye] h R:=by
 intro m
 induction m with
 | zero =>
  intro i h t b s;intros;rename_i hm hi he hf ha hl hpl hk
  have hlt : ¬ ((i : Int) < pts.length):=by omega
  rw [Gad,G7w,Gnr,Go0]
  simp [hlt]
  refine hk h t _ _ _ _ _ _ _ _ _ _ _ _ _ _ _ _ _ _ _ _ _ _ _ _ _ _ _ _ _ _ _ _ _ _ _ _ _ _ _ _ _ _ _ _ _ _ _ _ _ _ _ _ _ _ _ _ _ _ _ _ _ _ _ _ _ _ _ _ _ _ _ _ _ _ _ _ _ _ _ _ _ _ _ _ _ _ ?_ (Stq.refl _ _ _)
  rw [List.drop_of_length_le (by omega)]; exact he
 | succ m ih =>
  intro i h t b s;intros;rename_i hm hi he hf ha hl hpl hk
  have hlt : ((i : Int) < pts.length):=by omega
  have hw : IntKind.i64.wrap ((i : Int) + 1) = (i : Int) + 1:=Gbc (n:=i + 1) (by omega)
  have hil : i < pts.length:=by omega
  obtain ⟨id,off,blk,hs,hb,ht,hle⟩:=hf.get hil
  have hin:=ha _ (List.getElem_mem hil)
  have hsp : Ggy P b (pts.drop i) = (Gid P b pts[i].1 pts[i].2).bind fun b=>Ggy P b (pts.drop (i + 1)):=by
   rw [List.drop_eq_getElem_cons hil]; rfl
  obtain ⟨hle1,hsz1⟩:=Tr.Lv.out (A:=A.ask) (size:=A.size) A.size_ask s (Gt9 (P:=P) he.good hin)
  generalize hx : pts[i].1 = x at *
  generalize hy : pts[i].2 = y at *
  rw [hsp] at hk
  simp only [Tr.run_bind] at hk
  have he2:=he.push (some ⟨false,[.int .i64 x,.int .i64 y]⟩)
  have hs2:=Stq.push h (some ⟨false,[.int .i64 x,.int .i64 y]⟩) c (A.own t)
  have hf2:=hf.stq hs2
  have hK : ∀ y : Blk,blk? (h++[some y]) h.length = some y:=fun y=>blk?_push_eq
  obtain ⟨l1,l2,l3,l4,l5⟩:=he.lts
  have hq2:=he2.dr.blk
  have hcb2:=he2.dr.cb
  have hsig:=fun R=>Gay (R:=R) (x:=x) (y:=y) hcb2
  have htch:=fun R=>Gcf (R:=R) (x:=x) (y:=y) hcb2
  have hrfd:=fun R=>Gra (R:=R) (x:=x) (y:=y) hcb2
  have hnb:=fun R=>Ge9 (R:=R) (x:=x) (y:=y) he2.dr hin
  have hcx:=fun a b R=>Gk2 (h:=h++[some (⟨false,[.int .i64 x,.int .i64 y]⟩ : Blk)]) (R:=R) (a:=a) (b:=b)
  have hskip : Gid P b x y = .ret b→∀ K1 K2 K3 K4 K5 K6 K7 K8 K9 Ka Kb Kf Kg Kh Ki Kj Kk Kl Km Kn Ko Kp Kq Kr Ks Kt Ku Kv Kw Kx Ky Kz J0 J1 J2 J3 J4 J5 J6 J7 J8 J9 Ja Jb Jc Jd Je Jf Jg Jh Ji Jj Jk Jl Jm Jn Jo Jp Jq Jr Js Jt Ju Jv Jw Jx Jy Jz Y0 Y1 Y2 Y3 Y4 Y5 Y6 Y7 Y8 Y9 Ya Yb Yc Yd Ye : Value,Ok tab G2n (.inLoop Gmm :: .inBlock 0 :: k) #[ptr q,K1,K2,K3,K4,K5,K6,K7,K8,K9,Ka,Kb,sl,.int .i64 pts.length,.int .i64 ((i : Int) + 1),Kf,Kg,Kh,Ki,Kj,Kk,Kl,Km,Kn,Ko,Kp,Kq,Kr,Ks,Kt,Ku,Kv,Kw,Kx,Ky,Kz,J0,J1,J2,J3,J4,J5,J6,J7,J8,J9,Ja,Jb,Jc,Jd,Je,Jf,Jg,Jh,Ji,Jj,Jk,Jl,Jm,Jn,Jo,Jp,Jq,Jr,Js,Jt,Ju,Jv,Jw,Jx,Jy,Jz,Y0,Y1,Y2,Y3,Y4,Y5,Y6,Y7,Y8,Y9,Ya,Yb,Yc,Yd,Ye] (h++[some ⟨false,[.int .i64 x,.int .i64 y]⟩]) R:=by
   intro h1;intros
   rw [h1] at hk
   refine ih (i + 1) _ t b s _ _ _ _ _ _ _ _ _ _ _ _ _ _ _ _ _ _ _ _ _ _ _ _ _ _ _ _ _ _ _ _ _ _ _ _ _ _ _ _ _ _ _ _ _ _ _ _ _ _ _ _ _ _ _ _ _ _ _ _ _ _ _ _ _ _ _ _ _ _ _ _ _ _ _ _ _ _ _ _ _ _ _ (by omega) (by omega) he2 hf2 ha (by omega) hpl ?_
   intro h' t';intros;rename_i pe st
   exact hk h' t' _ _ _ _ _ _ _ _ _ _ _ _ _ _ _ _ _ _ _ _ _ _ _ _ _ _ _ _ _ _ _ _ _ _ _ _ _ _ _ _ _ _ _ _ _ _ _ _ _ _ _ _ _ _ _ _ _ _ _ _ _ _ _ _ _ _ _ _ _ _ _ _ _ _ _ _ _ _ _ _ _ _ _ _ _ _ pe (hs2.trans st)
  rw [Gad,G7w,Gnr,Go0]
  cases hsg : (b.get x y).s
  ·have h1 : Gid P b x y = .ret b:=by unfold Gid; rw [if_pos (.inl hsg)]
   rw [hsg] at hsig
   simp [-List.cons_append,-List.append_assoc,Gaa,hlt,hw,hs,hb,ht,hle,hK,hq2,hsig]
   rw [← hs]
   exact hskip h1 ..
  ·cases htc0 : (b.get x y).t
   ·-- refined
    have h1 : Gid P b x y = .ask (P.cx (Gd7 (!(b.get x y).r) (Gg8 b x y P.cz))) fun bit=>.ret (((Gks P.s b x y bit).upd x y Gbv).upd x y (Gbz true)):=by unfold Gid; rw [if_neg (by simp [hsg,htc0])]
    obtain ⟨u3,h3,e3,p3,s3⟩:=Gta he2 (by omega) (Gd7 (!(b.get x y).r) (Gg8 b x y P.cz))
    rw [h1] at hk hle1 hsz1
    simp only [Tr.run_ask,Tr.run_ret] at hk hle1 hsz1
    generalize (A.ask s (P.cx (Gd7 (!(b.get x y).r) (Gg8 b x y P.cz)))).1 = bit at *
    generalize (A.ask s (P.cx (Gd7 (!(b.get x y).r) (Gg8 b x y P.cz)))).2 = s3' at *
    have hq3:=p3.dr.blk
    have hv3 : blk? h3 h.length = some ⟨false,[.int .i64 x,.int .i64 y]⟩:=by
     rw [s3.same h.length (by simp) (by omega) (fun e=>by have:=A.lt he.rel _ e; omega)]; exact blk?_push_eq
    have hnown : ¬ A.own u3 h.length:=fun e=>by
     rcases s3.fresh _ e with k | k
     ·have:=A.lt he.rel _ k; omega
     ·simp at k; omega
    have hlen3:=s3.len
    simp only [List.length_append,List.length_singleton] at hlen3
    have hgr : ∃ h4,(∀ R,(if bit = true then Ret tab 146 [ptr q,.int .i64 x,.int .i64 y] h3 R else R (.tuple #[]) h3) = R (.tuple #[]) h4)∧PD A h4 q p pb nb P u3 (Gks P.s b x y bit) s3'∧Stq h3 h4 c (A.own u3) (A.own u3)∧∀ id,id < h3.length→id ≠ c→blk? h4 id = blk? h3 id:=by
     cases bit
     ·exact ⟨h3,fun R=>by simp,p3,Stq.refl _ _ _,fun _ _ _=>rfl⟩
     ·obtain ⟨h4,e4,p4,s4,k4⟩:=grow_d p3 hin
      exact ⟨h4,fun R=>by simp [e4],p4,s4,k4⟩
    obtain ⟨h4,e4,p4,s4,k4⟩:=hgr
    have hl4:=Gjj (s:=P.s) he.good hin bit
    have hq4:=p4.dr.blk
    have hv4 : blk? h4 h.length = some ⟨false,[.int .i64 x,.int .i64 y]⟩:=by rw [k4 _ (by omega) (by omega)]; exact hv3
    generalize Gks P.s b x y bit = b4 at *
    have hrf:=fun R=>Gvu (R:=R) p4.dr.cb (x:=x) (y:=y) (hl4.inb hin)
    have hl5:=Gdr hl4.good (hl4.inb hin) Gcr
    obtain ⟨p5,s5⟩:=p4.to hl5
    have hq5:=p5.dr.blk
    have hv5 : blk? (h4.set c (some ⟨false,Gco (b4.upd x y Gbv).cs⟩)) h.length = some ⟨false,[.int .i64 x,.int .i64 y]⟩:=by
     rw [blk?_set_ne (by omega)]; exact hv4
    have htc:=fun R=>Ghy (R:=R) (v:=true) p5.dr.cb (x:=x) (y:=y) (hl5.inb (hl4.inb hin))
    obtain ⟨p6,s6⟩:=p5.to (Gdr hl5.good (hl5.inb (hl4.inb hin)) (Gbh true))
    have hmm : (fun z : Cell=>({ z with t:=true } : Cell)) = Gbz true:=rfl
    have hmr : (fun z : Cell=>({ z with r:=true } : Cell)) = Gbv:=rfl
    rw [hmm] at htc
    rw [hmr] at hrf
    have st6:=(((hs2.trans s3).trans s4).trans s5).trans s6
    have hgo : ∀ K1 K2 K3 K4 K5 K6 K7 K8 K9 Ka Kb Kf Kg Kh Ki Kj Kk Kl Km Kn Ko Kp Kq Kr Ks Kt Ku Kv Kw Kx Ky Kz J0 J1 J2 J3 J4 J5 J6 J7 J8 J9 Ja Jb Jc Jd Je Jf Jg Jh Ji Jj Jk Jl Jm Jn Jo Jp Jq Jr Js Jt Ju Jv Jw Jx Jy Jz Y0 Y1 Y2 Y3 Y4 Y5 Y6 Y7 Y8 Y9 Ya Yb Yc Yd Ye : Value,Ok tab G2n (.inLoop Gmm :: .inBlock 0 :: k) #[ptr q,K1,K2,K3,K4,K5,K6,K7,K8,K9,Ka,Kb,sl,.int .i64 pts.length,.int .i64 ((i : Int) + 1),Kf,Kg,Kh,Ki,Kj,Kk,Kl,Km,Kn,Ko,Kp,Kq,Kr,Ks,Kt,Ku,Kv,Kw,Kx,Ky,Kz,J0,J1,J2,J3,J4,J5,J6,J7,J8,J9,Ja,Jb,Jc,Jd,Je,Jf,Jg,Jh,Ji,Jj,Jk,Jl,Jm,Jn,Jo,Jp,Jq,Jr,Js,Jt,Ju,Jv,Jw,Jx,Jy,Jz,Y0,Y1,Y2,Y3,Y4,Y5,Y6,Y7,Y8,Y9,Ya,Yb,Yc,Yd,Ye] ((h4.set c (some ⟨false,Gco (b4.upd x y Gbv).cs⟩)).set c (some ⟨false,Gco ((b4.upd x y Gbv).upd x y (Gbz true)).cs⟩)) R:=by
     intros
     refine ih (i + 1) _ u3 _ _ _ _ _ _ _ _ _ _ _ _ _ _ _ _ _ _ _ _ _ _ _ _ _ _ _ _ _ _ _ _ _ _ _ _ _ _ _ _ _ _ _ _ _ _ _ _ _ _ _ _ _ _ _ _ _ _ _ _ _ _ _ _ _ _ _ _ _ _ _ _ _ _ _ _ _ _ _ _ _ _ _ _ _ (by omega) (by omega) p6 (hf.stq st6) (hle1.all ha) (by omega) hpl ?_
     intro h' t';intros;rename_i pe st
     exact hk h' t' _ _ _ _ _ _ _ _ _ _ _ _ _ _ _ _ _ _ _ _ _ _ _ _ _ _ _ _ _ _ _ _ _ _ _ _ _ _ _ _ _ _ _ _ _ _ _ _ _ _ _ _ _ _ _ _ _ _ _ _ _ _ _ _ _ _ _ _ _ _ _ _ _ _ _ _ _ _ _ _ _ _ _ _ _ _ pe (st6.trans st)
    rw [List.set_set] at hgo
    rw [hsg] at hsig; rw [htc0] at htch
    cases bit
    ·simp only [Bool.false_eq_true,if_false] at e4
     obtain rfl : h3 = h4:=by
      have:=e4 fun _ h'=>h3 = h'
      exact this.mp rfl
     simp at e3
     simp [-List.cons_append,-List.append_assoc,Gaa,hlt,hw,hs,hb,ht,hle,hK,hq2,hsig,htch,hrfd,hnb,hcx,e3,hq3,hv3,hrf,hq5,hv5,htc,book,Gd0,Gb5,Ghw,Gbq,Gcg]
     rw [← hs]
     exact hgo ..
    ·simp only [if_true] at e4
     simp at e3
     simp [-List.cons_append,-List.append_assoc,Gaa,hlt,hw,hs,hb,ht,hle,hK,hq2,hsig,htch,hrfd,hnb,hcx,e3,hq3,hv3,e4,hq4,hv4,hrf,hq5,hv5,htc,book,Gd0,Gb5,Ghw,Gbq,Gcg]
     rw [← hs]
     exact hgo ..
   ·have h1 : Gid P b x y = .ret b:=by unfold Gid; rw [if_pos (.inr htc0)]
    rw [hsg] at hsig; rw [htc0] at htch
    simp [-List.cons_append,-List.append_assoc,Gaa,hlt,hw,hs,hb,ht,hle,hK,hq2,hsig,htch]
    rw [← hs]
    exact hskip h1 ..
theorem Gqp (he : PD A h q p pb nb P t b s) (hl : A.size s + 100000 < 1000000) :
  ∃ t' h',(∀ R,Ret tab 111 [ptr q] h R = R (.tuple #[]) h')∧PD A h' q p pb nb P t' ((Ggy P b (scan b.w b.h)).run A.ask s).1 ((Ggy P b (scan b.w b.h)).run A.ask s).2∧Stq h h' c (A.own t) (A.own t'):=by
 have key : Ret tab 111 [ptr q] h fun v h'=>v = .tuple #[]∧∃ t',PD A h' q p pb nb P t' ((Ggy P b (scan b.w b.h)).run A.ask s).1 ((Ggy P b (scan b.w b.h)).run A.ask s).2∧Stq h h' c (A.own t) (A.own t'):=by
  obtain ⟨sl,h1,e1,p1,s1,f1⟩:=he.scan
  obtain ⟨a,cc,hs⟩:=f1.sl.shape
  have hsl:=Ggk he.dr.cb.ok.w2 he.dr.cb.ok.h2
  have hq:=he.dr.blk
  rw [G3z,B111]
  simp [hq,e1,hs]
  rw [← hs]
  refine G0q _ 0 h1 t b s _ _ _ _ _ _ _ _ _ _ _ _ _ _ _ _ _ _ _ _ _ _ _ _ _ _ _ _ _ _ _ _ _ _ _ _ _ _ _ _ _ _ _ _ _ _ _ _ _ _ _ _ _ _ _ _ _ _ _ _ _ _ _ _ _ _ _ _ _ _ _ _ _ _ _ _ _ _ _ _ _ _ _ rfl (by omega) p1 f1 (Gc3 b) (by omega) (by omega) ?_
  intro h' t';intros;rename_i pe st
  simp [fin111]
  exact ⟨t',by simpa using pe,s1.trans st⟩
 obtain ⟨v,h',e,rfl,t',pe,st⟩:=Gck key
 exact ⟨t',h',e,pe,st⟩
end
section
variable {c : Nat} {nv : Value} {A : Src c (Glx nv)} {h : Gag} {q p pb nb : Nat} {P : PP} {t : A.T} {b : BS} {s : A.S} {k : List Ga1} {R : RP} {v1 : Value}
theorem Gm0 {w hh : Nat} (hw2 : w≤64) (hh2 : hh≤64) {x top : Int} {v25 v26 : Value} (hx : 0≤x∧x < w) (ht : 0≤top∧top < hh) :
  ∀ (n : Nat) (y : Int) (h : Gag) (t : A.T) (b : BS) (s : A.S) (K2 K3 K4 K8 K9 Ka Kb Kc Kd Ke Kf Kg Kh Ki Kj Kk Kl Km Kn Ko Kr Ks Kt Ku Kv Kw Kx Ky Kz J0 J1 J2 J3 J4 J5 J6 J7 J8 J9 Ja Jb Jc Jd Je Jf Jg Jh Ji Jj Jk Jl Jm Jn Jo Jp Jq Jr Js Jt Ju Jv Jw Jx Jy Jz Y0 Y1 Y2 Y3 Y4 Y5 Y6 Y7 Y8 Y9 Ya Yb Yc Yd Ye Yf Yg Yh Yi Yj Yk Yl Ym Yn Yo Yp Yq Yr Ys Yt Yu Yv Yw Yx Yy Yz Z0 Z1 Z2 Z3 Z4 Z5 Z6 Z7 Z8 Z9 Za Zb Zc Zd Ze Zf Zg Zh Zi Zj Zk Zl Zm Zn Zo Zp Zq Zr Zs Zt Zu : Value),y + n = min (top + 4) hh→0≤y→b.w = w→b.h = hh→PD A h q p pb nb P t b s→A.size s + 2 * n + 3 < 1000000 →
   (∀ (h' : Gag) (t' : A.T) (y' : Int) (K2 K3 K4 K8 K9 Ka Kb Kc Kd Ke Kf Kg Kh Ki Kj Kk Kl Km Kn Ko Kr Ks Kt Ku Kv Kw Kx Ky Kz J0 J1 J2 J3 J4 J5 J6 J7 J8 J9 Ja Jb Jc Jd Je Jf Jg Jh Ji Jj Jk Jl Jm Jn Jo Jp Jq Jr Js Jt Ju Jv Jw Jx Jy Jz Y0 Y1 Y2 Y3 Y4 Y5 Y6 Y7 Y8 Y9 Ya Yb Yc Yd Ye Yf Yg Yh Yi Yj Yk Yl Ym Yn Yo Yp Yq Yr Ys Yt Yu Yv Yw Yx Yy Yz Z0 Z1 Z2 Z3 Z4 Z5 Z6 Z7 Z8 Z9 Za Zb Zc Zd Ze Zf Zg Zh Zi Zj Zk Zl Zm Zn Zo Zp Zq Zr Zs Zt Zu : Value),PD A h' q p pb nb P t' ((Gja P b x y n).run A.ask s).1 ((Gja P b x y n).run A.ask s).2→Stq h h' c (A.own t) (A.own t') →
    Ok tab Gpu k #[ptr q,v1,K2,K3,K4,.int .i64 top,.int .i64 x,.int .i64 y',K8,K9,Ka,Kb,Kc,Kd,Ke,Kf,Kg,Kh,Ki,Kj,Kk,Kl,Km,Kn,Ko,v25,v26,Kr,Ks,Kt,Ku,Kv,Kw,Kx,Ky,Kz,J0,J1,J2,J3,J4,J5,J6,J7,J8,J9,Ja,Jb,Jc,Jd,Je,Jf,Jg,Jh,Ji,Jj,Jk,Jl,Jm,Jn,Jo,Jp,Jq,Jr,Js,Jt,Ju,Jv,Jw,Jx,Jy,Jz,Y0,Y1,Y2,Y3,Y4,Y5,Y6,Y7,Y8,Y9,Ya,Yb,Yc,Yd,Ye,Yf,Yg,Yh,Yi,Yj,Yk,Yl,Ym,Yn,Yo,Yp,Yq,Yr,Ys,Yt,Yu,Yv,Yw,Yx,Yy,Yz,Z0,Z1,Z2,Z3,Z4,Z5,Z6,Z7,Z8,Z9,Za,Zb,Zc,Zd,Ze,Zf,Zg,Zh,Zi,Zj,Zk,Zl,Zm,Zn,Zo,Zp,Zq,Zr,Zs,Zt,Zu] h' R) →
   Ok tab Gpu (.inLoop Grj :: .inBlock 4 :: k) #[ptr q,v1,K2,K3,K4,.int .i64 top,.int .i64 x,.int .i64 y,K8,K9,Ka,Kb,Kc,Kd,Ke,Kf,Kg,Kh,Ki,Kj,Kk,Kl,Km,Kn,Ko,v25,v26,Kr,Ks,Kt,Ku,Kv,Kw,Kx,Ky,Kz,J0,J1,J2,J3,J4,J5,J6,J7,J8,J9,Ja,Jb,Jc,Jd,Je,Jf,Jg,Jh,Ji,Jj,Jk,Jl,Jm,Jn,Jo,Jp,Jq,Jr,Js,Jt,Ju,Jv,Jw,Jx,Jy,Jz,Y0,Y1,Y2,Y3,Y4,Y5,Y6,Y7,Y8,Y9,Ya,Yb,Yc,Yd,Ye,Yf,Yg,Yh,Yi,Yj,Yk,Yl,Ym,Yn,Yo,Yp,Yq,Yr,Ys,Yt,Yu,Yv,Yw,Yx,Yy,Yz,Z0,Z1,Z2,Z3,Z4,Z5,Z6,Z7,Z8,Z9,Za,Zb,Zc,Zd,Ze,Zf,Zg,Zh,Zi,Zj,Zk,Zl,Zm,Zn,Zo,Zp,Zq,Zr,Zs,Zt,Zu] h R:=by
 intro n
 induction n with
 | zero =>
  intro y h t b s;intros;rename_i hy h0 hw hh' he hl hk
  have hq:=he.dr.blk
  rw [hw,hh'] at hq
  have hw4 : IntKind.i64.wrap (top + 4) = top + 4:=Gan (by omega) (by omega)
  have hlt : ¬ y < min (top + 4) (hh : Int):=by omega
  rw [Gad,G7f,Gn3,God]
  simp [hq,hw4,Gci,Gcq,Gfo,Qbd (hh:=hh) ht.1]
  simp [hlt]
  exact hk h t y _ _ _ _ _ _ _ _ _ _ _ _ _ _ _ _ _ _ _ _ _ _ _ _ _ _ _ _ _ _ _ _ _ _ _ _ _ _ _ _ _ _ _ _ _ _ _ _ _ _ _ _ _ _ _ _ _ _ _ _ _ _ _ _ _ _ _ _ _ _ _ _ _ _ _ _ _ _ _ _ _ _ _ _ _ _ _ _ _ _ _ _ _ _ _ _ _ _ _ _ _ _ _ _ _ _ _ _ _ _ _ _ _ _ _ _ _ _ _ _ _ _ _ _ _ _ _ _ _ _ _ _ he (Stq.refl _ _ _)
 | succ n ih =>
  intro y h t b s;intros;rename_i hy h0 hw hh' he hl hk
  have hq:=he.dr.blk
  rw [hw,hh'] at hq
  have hw4 : IntKind.i64.wrap (top + 4) = top + 4:=Gan (by omega) (by omega)
  have hw1 : IntKind.i64.wrap (y + 1) = y + 1:=Gan (by omega) (by omega)
  have hlt : y < min (top + 4) (hh : Int):=by omega
  have hin : b.inb x y:=⟨hx.1,by rw [hw]; exact hx.2,h0,by rw [hh']; omega⟩
  have hsig:=fun R=>Gay (R:=R) (x:=x) (y:=y) he.dr.cb
  have htch:=fun R=>Gcf (R:=R) (x:=x) (y:=y) he.dr.cb
  obtain ⟨hle,hsz⟩:=Tr.Lv.out (A:=A.ask) (size:=A.size) A.size_ask s (Guk he.dr.pok he.good hin)
  rw [Gja] at hk
  simp only [Tr.run_bind] at hk
  have hskip : Gjd P b x y = .ret b→∀ K2 K3 K4 K8 K9 Ka Kb Kc Kd Ke Kf Kg Kh Ki Kj Kk Kl Km Kn Ko Kr Ks Kt Ku Kv Kw Kx Ky Kz J0 J1 J2 J3 J4 J5 J6 J7 J8 J9 Ja Jb Jc Jd Je Jf Jg Jh Ji Jj Jk Jl Jm Jn Jo Jp Jq Jr Js Jt Ju Jv Jw Jx Jy Jz Y0 Y1 Y2 Y3 Y4 Y5 Y6 Y7 Y8 Y9 Ya Yb Yc Yd Ye Yf Yg Yh Yi Yj Yk Yl Ym Yn Yo Yp Yq Yr Ys Yt Yu Yv Yw Yx Yy Yz Z0 Z1 Z2 Z3 Z4 Z5 Z6 Z7 Z8 Z9 Za Zb Zc Zd Ze Zf Zg Zh Zi Zj Zk Zl Zm Zn Zo Zp Zq Zr Zs Zt Zu : Value,Ok tab Gpu (.inLoop Grj :: .inBlock 4 :: k) #[ptr q,v1,K2,K3,K4,.int .i64 top,.int .i64 x,.int .i64 (y + 1),K8,K9,Ka,Kb,Kc,Kd,Ke,Kf,Kg,Kh,Ki,Kj,Kk,Kl,Km,Kn,Ko,v25,v26,Kr,Ks,Kt,Ku,Kv,Kw,Kx,Ky,Kz,J0,J1,J2,J3,J4,J5,J6,J7,J8,J9,Ja,Jb,Jc,Jd,Je,Jf,Jg,Jh,Ji,Jj,Jk,Jl,Jm,Jn,Jo,Jp,Jq,Jr,Js,Jt,Ju,Jv,Jw,Jx,Jy,Jz,Y0,Y1,Y2,Y3,Y4,Y5,Y6,Y7,Y8,Y9,Ya,Yb,Yc,Yd,Ye,Yf,Yg,Yh,Yi,Yj,Yk,Yl,Ym,Yn,Yo,Yp,Yq,Yr,Ys,Yt,Yu,Yv,Yw,Yx,Yy,Yz,Z0,Z1,Z2,Z3,Z4,Z5,Z6,Z7,Z8,Z9,Za,Zb,Zc,Zd,Ze,Zf,Zg,Zh,Zi,Zj,Zk,Zl,Zm,Zn,Zo,Zp,Zq,Zr,Zs,Zt,Zu] h R:=by
   intro h1;intros
   rw [h1] at hk
   refine ih (y + 1) h t b s _ _ _ _ _ _ _ _ _ _ _ _ _ _ _ _ _ _ _ _ _ _ _ _ _ _ _ _ _ _ _ _ _ _ _ _ _ _ _ _ _ _ _ _ _ _ _ _ _ _ _ _ _ _ _ _ _ _ _ _ _ _ _ _ _ _ _ _ _ _ _ _ _ _ _ _ _ _ _ _ _ _ _ _ _ _ _ _ _ _ _ _ _ _ _ _ _ _ _ _ _ _ _ _ _ _ _ _ _ _ _ _ _ _ _ _ _ _ _ _ _ _ _ _ _ _ _ _ _ _ _ _ (by omega) (by omega) hw hh' he (by omega) ?_
   intro h' t' y';intros;rename_i pe st
   exact hk h' t' y' _ _ _ _ _ _ _ _ _ _ _ _ _ _ _ _ _ _ _ _ _ _ _ _ _ _ _ _ _ _ _ _ _ _ _ _ _ _ _ _ _ _ _ _ _ _ _ _ _ _ _ _ _ _ _ _ _ _ _ _ _ _ _ _ _ _ _ _ _ _ _ _ _ _ _ _ _ _ _ _ _ _ _ _ _ _ _ _ _ _ _ _ _ _ _ _ _ _ _ _ _ _ _ _ _ _ _ _ _ _ _ _ _ _ _ _ _ _ _ _ _ _ _ _ _ _ _ _ _ _ _ _ pe st
  rw [Gad,G7f,Gn3,God]
  simp [hq,hw4,Gci,Gcq,Gfo,Qbd (hh:=hh) ht.1]
  cases hsg : (b.get x y).s
  ·cases htc : (b.get x y).t
   ·have h1 : Gjd P b x y = Gig P b x y:=by unfold Gjd; rw [if_pos ⟨hsg,htc⟩]
    obtain ⟨u1,h2,e1,p1,s1⟩:=G7b he (by omega) hin
    rw [h1] at hk hle hsz
    rw [hsg] at hsig; rw [htc] at htch
    simp [Gaa,hlt,hw1,hq,hsig,htch,e1]
    refine ih (y + 1) h2 u1 _ _ _ _ _ _ _ _ _ _ _ _ _ _ _ _ _ _ _ _ _ _ _ _ _ _ _ _ _ _ _ _ _ _ _ _ _ _ _ _ _ _ _ _ _ _ _ _ _ _ _ _ _ _ _ _ _ _ _ _ _ _ _ _ _ _ _ _ _ _ _ _ _ _ _ _ _ _ _ _ _ _ _ _ _ _ _ _ _ _ _ _ _ _ _ _ _ _ _ _ _ _ _ _ _ _ _ _ _ _ _ _ _ _ _ _ _ _ _ _ _ _ _ _ _ _ _ _ _ _ _ _ _ _ (by omega) (by omega) (by rw [hle.w]; exact hw) (by rw [hle.h]; exact hh') p1 (by omega) ?_
    intro h' t' y';intros;rename_i pe st
    exact hk h' t' y' _ _ _ _ _ _ _ _ _ _ _ _ _ _ _ _ _ _ _ _ _ _ _ _ _ _ _ _ _ _ _ _ _ _ _ _ _ _ _ _ _ _ _ _ _ _ _ _ _ _ _ _ _ _ _ _ _ _ _ _ _ _ _ _ _ _ _ _ _ _ _ _ _ _ _ _ _ _ _ _ _ _ _ _ _ _ _ _ _ _ _ _ _ _ _ _ _ _ _ _ _ _ _ _ _ _ _ _ _ _ _ _ _ _ _ _ _ _ _ _ _ _ _ _ _ _ _ _ _ _ _ _ pe (s1.trans st)
   ·have h1 : Gjd P b x y = .ret b:=by unfold Gjd; rw [if_neg (by simp [htc])]
    rw [hsg] at hsig; rw [htc] at htch
    simp [Gaa,hlt,hw1,hq,hsig,htch]
    exact hskip h1 ..
  ·have h1 : Gjd P b x y = .ret b:=by unfold Gjd; rw [if_neg (by simp [hsg])]
   rw [hsg] at hsig
   simp [Gaa,Gah,hlt,hw1,hq,hsig]
   exact hskip h1 ..
theorem Gx2 {w hh : Nat} (hw2 : w≤64) (hh2 : hh≤64) {top : Int} (ht : 0≤top∧top < hh) :
  ∀ (n : Nat) (x : Int) (h : Gag) (t : A.T) (b : BS) (s : A.S) (K2 K3 K4 K6 K7 K8 K9 Ka Kb Kc Kd Ke Kf Kg Kh Ki Kj Kk Kl Km Kn Ko Kr Ks Kt Ku Kv Kw Kx Ky Kz J0 J1 J2 J3 J4 J5 J6 J7 J8 J9 Ja Jb Jc Jd Je Jf Jg Jh Ji Jj Jk Jl Jm Jn Jo Jp Jq Jr Js Jt Ju Jv Jw Jx Jy Jz Y0 Y1 Y2 Y3 Y4 Y5 Y6 Y7 Y8 Y9 Ya Yb Yc Yd Ye Yf Yg Yh Yi Yj Yk Yl Ym Yn Yo Yp Yq Yr Ys Yt Yu Yv Yw Yx Yy Yz Z0 Z1 Z2 Z3 Z4 Z5 Z6 Z7 Z8 Z9 Za Zb Zc Zd Ze Zf Zg Zh Zi Zj Zk Zl Zm Zn Zo Zp Zq Zr Zs Zt Zu : Value),x + n = w→0≤x→b.w = w→b.h = hh→PD A h q p pb nb P t b s→A.size s + 12 * n + 20 < 1000000 →
   (∀ (h' : Gag) (t' : A.T) (K2 K3 K4 K6 K7 K8 K9 Ka Kb Kc Kd Ke Kf Kg Kh Ki Kj Kk Kl Km Kn Ko Kp Kq Kr Ks Kt Ku Kv Kw Kx Ky Kz J0 J1 J2 J3 J4 J5 J6 J7 J8 J9 Ja Jb Jc Jd Je Jf Jg Jh Ji Jj Jk Jl Jm Jn Jo Jp Jq Jr Js Jt Ju Jv Jw Jx Jy Jz Y0 Y1 Y2 Y3 Y4 Y5 Y6 Y7 Y8 Y9 Ya Yb Yc Yd Ye Yf Yg Yh Yi Yj Yk Yl Ym Yn Yo Yp Yq Yr Ys Yt Yu Yv Yw Yx Yy Yz Z0 Z1 Z2 Z3 Z4 Z5 Z6 Z7 Z8 Z9 Za Zb Zc Zd Ze Zf Zg Zh Zi Zj Zk Zl Zm Zn Zo Zp Zq Zr Zs Zt Zu : Value),PD A h' q p pb nb P t' ((Gp9 P b x top n).run A.ask s).1 ((Gp9 P b x top n).run A.ask s).2→Stq h h' c (A.own t) (A.own t') →
    Ok tab Gpu k #[ptr q,v1,K2,K3,K4,.int .i64 top,K6,K7,K8,K9,Ka,Kb,Kc,Kd,Ke,Kf,Kg,Kh,Ki,Kj,Kk,Kl,Km,Kn,Ko,Kp,Kq,Kr,Ks,Kt,Ku,Kv,Kw,Kx,Ky,Kz,J0,J1,J2,J3,J4,J5,J6,J7,J8,J9,Ja,Jb,Jc,Jd,Je,Jf,Jg,Jh,Ji,Jj,Jk,Jl,Jm,Jn,Jo,Jp,Jq,Jr,Js,Jt,Ju,Jv,Jw,Jx,Jy,Jz,Y0,Y1,Y2,Y3,Y4,Y5,Y6,Y7,Y8,Y9,Ya,Yb,Yc,Yd,Ye,Yf,Yg,Yh,Yi,Yj,Yk,Yl,Ym,Yn,Yo,Yp,Yq,Yr,Ys,Yt,Yu,Yv,Yw,Yx,Yy,Yz,Z0,Z1,Z2,Z3,Z4,Z5,Z6,Z7,Z8,Z9,Za,Zb,Zc,Zd,Ze,Zf,Zg,Zh,Zi,Zj,Zk,Zl,Zm,Zn,Zo,Zp,Zq,Zr,Zs,Zt,Zu] h' R) →
   Ok tab Gpu (.inLoop Gqw :: .inBlock 2 :: k) #[ptr q,v1,K2,K3,K4,.int .i64 top,K6,K7,K8,K9,Ka,Kb,Kc,Kd,Ke,Kf,Kg,Kh,Ki,Kj,Kk,Kl,Km,Kn,Ko,.int .i64 w,.int .i64 x,Kr,Ks,Kt,Ku,Kv,Kw,Kx,Ky,Kz,J0,J1,J2,J3,J4,J5,J6,J7,J8,J9,Ja,Jb,Jc,Jd,Je,Jf,Jg,Jh,Ji,Jj,Jk,Jl,Jm,Jn,Jo,Jp,Jq,Jr,Js,Jt,Ju,Jv,Jw,Jx,Jy,Jz,Y0,Y1,Y2,Y3,Y4,Y5,Y6,Y7,Y8,Y9,Ya,Yb,Yc,Yd,Ye,Yf,Yg,Yh,Yi,Yj,Yk,Yl,Ym,Yn,Yo,Yp,Yq,Yr,Ys,Yt,Yu,Yv,Yw,Yx,Yy,Yz,Z0,Z1,Z2,Z3,Z4,Z5,Z6,Z7,Z8,Z9,Za,Zb,Zc,Zd,Ze,Zf,Zg,Zh,Zi,Zj,Zk,Zl,Zm,Zn,Zo,Zp,Zq,Zr,Zs,Zt,Zu] h R:=by
 intro n
 induction n with
 | zero =>
  intro x h t b s;intros;rename_i hx h0 hw hh' he hl hk
  have hlt : ¬ x < (w : Int):=by omega
  rw [Gad,G66,Gne,Gpi]
  simp [hlt]
  exact hk h t _ _ _ _ _ _ _ _ _ _ _ _ _ _ _ _ _ _ _ _ _ _ _ _ _ _ _ _ _ _ _ _ _ _ _ _ _ _ _ _ _ _ _ _ _ _ _ _ _ _ _ _ _ _ _ _ _ _ _ _ _ _ _ _ _ _ _ _ _ _ _ _ _ _ _ _ _ _ _ _ _ _ _ _ _ _ _ _ _ _ _ _ _ _ _ _ _ _ _ _ _ _ _ _ _ _ _ _ _ _ _ _ _ _ _ _ _ _ _ _ _ _ _ _ _ _ _ _ _ _ _ _ _ _ _ _ he (Stq.refl _ _ _)
 | succ n ih =>
  intro x h t b s;intros;rename_i hx h0 hw hh' he hl hk
  have hlt : x < (w : Int):=by omega
  have hw1 : IntKind.i64.wrap (x + 1) = x + 1:=Gan (by omega) (by omega)
  have hw4 : IntKind.i64.wrap (top + 4) = top + 4:=Gan (by omega) (by omega)
  have hq:=he.dr.blk
  have hin : b.inb x top:=⟨h0,by rw [hw]; exact hlt,ht.1,by rw [hh']; exact ht.2⟩
  have hqt:=fun R=>Qaa (R:=R) (x:=x) (top:=top) he.dr ⟨h0,by rw [hw]; exact hlt⟩ ⟨ht.1,by rw [hh']; exact ht.2⟩
  obtain ⟨hle,hsz⟩:=Tr.Lv.out (A:=A.ask) (size:=A.size) A.size_ask s (Gyn he.dr.pok he.good hin)
  rw [Gp9] at hk
  simp only [Tr.run_bind] at hk
  have hnext : ∀ (h' : Gag) (t' : A.T) (K2 K3 K4 K6 K7 K8 K9 Ka Kb Kc Kd Ke Kf Kg Kh Ki Kj Kk Kl Km Kn Ko Kr Ks Kt Ku Kv Kw Kx Ky Kz J0 J1 J2 J3 J4 J5 J6 J7 J8 J9 Ja Jb Jc Jd Je Jf Jg Jh Ji Jj Jk Jl Jm Jn Jo Jp Jq Jr Js Jt Ju Jv Jw Jx Jy Jz Y0 Y1 Y2 Y3 Y4 Y5 Y6 Y7 Y8 Y9 Ya Yb Yc Yd Ye Yf Yg Yh Yi Yj Yk Yl Ym Yn Yo Yp Yq Yr Ys Yt Yu Yv Yw Yx Yy Yz Z0 Z1 Z2 Z3 Z4 Z5 Z6 Z7 Z8 Z9 Za Zb Zc Zd Ze Zf Zg Zh Zi Zj Zk Zl Zm Zn Zo Zp Zq Zr Zs Zt Zu : Value),PD A h' q p pb nb P t' ((Gy2 P b x top).run A.ask s).1 ((Gy2 P b x top).run A.ask s).2→Stq h h' c (A.own t) (A.own t') →
    Ok tab Gpu (.inLoop Gqw :: .inBlock 2 :: k) #[ptr q,v1,K2,K3,K4,.int .i64 top,K6,K7,K8,K9,Ka,Kb,Kc,Kd,Ke,Kf,Kg,Kh,Ki,Kj,Kk,Kl,Km,Kn,Ko,.int .i64 w,.int .i64 (x + 1),Kr,Ks,Kt,Ku,Kv,Kw,Kx,Ky,Kz,J0,J1,J2,J3,J4,J5,J6,J7,J8,J9,Ja,Jb,Jc,Jd,Je,Jf,Jg,Jh,Ji,Jj,Jk,Jl,Jm,Jn,Jo,Jp,Jq,Jr,Js,Jt,Ju,Jv,Jw,Jx,Jy,Jz,Y0,Y1,Y2,Y3,Y4,Y5,Y6,Y7,Y8,Y9,Ya,Yb,Yc,Yd,Ye,Yf,Yg,Yh,Yi,Yj,Yk,Yl,Ym,Yn,Yo,Yp,Yq,Yr,Ys,Yt,Yu,Yv,Yw,Yx,Yy,Yz,Z0,Z1,Z2,Z3,Z4,Z5,Z6,Z7,Z8,Z9,Za,Zb,Zc,Zd,Ze,Zf,Zg,Zh,Zi,Zj,Zk,Zl,Zm,Zn,Zo,Zp,Zq,Zr,Zs,Zt,Zu] h' R:=by
   intro h' t';intros;rename_i pe st
   refine ih (x + 1) h' t' _ _ _ _ _ _ _ _ _ _ _ _ _ _ _ _ _ _ _ _ _ _ _ _ _ _ _ _ _ _ _ _ _ _ _ _ _ _ _ _ _ _ _ _ _ _ _ _ _ _ _ _ _ _ _ _ _ _ _ _ _ _ _ _ _ _ _ _ _ _ _ _ _ _ _ _ _ _ _ _ _ _ _ _ _ _ _ _ _ _ _ _ _ _ _ _ _ _ _ _ _ _ _ _ _ _ _ _ _ _ _ _ _ _ _ _ _ _ _ _ _ _ _ _ _ _ _ _ _ _ _ _ _ _ _ _ (by omega) (by omega) (by rw [hle.w]; exact hw) (by rw [hle.h]; exact hh') pe (by omega) ?_
   intro h'' t'';intros;rename_i pe2 st2
   exact hk h'' t'' _ _ _ _ _ _ _ _ _ _ _ _ _ _ _ _ _ _ _ _ _ _ _ _ _ _ _ _ _ _ _ _ _ _ _ _ _ _ _ _ _ _ _ _ _ _ _ _ _ _ _ _ _ _ _ _ _ _ _ _ _ _ _ _ _ _ _ _ _ _ _ _ _ _ _ _ _ _ _ _ _ _ _ _ _ _ _ _ _ _ _ _ _ _ _ _ _ _ _ _ _ _ _ _ _ _ _ _ _ _ _ _ _ _ _ _ _ _ _ _ _ _ _ _ _ _ _ _ _ _ _ _ _ _ _ _ pe2 (st.trans st2)
  rw [Gad,G66,Gne,Gpi]
  cases hqq : quiet b x top P.cz
  ·-- no run length
   have hcol : Gy2 P b x top = Gja P b x top (min (top + 4) b.h - top).toNat:=by unfold Gy2; rw [if_neg (by simp [hqq])]
   rw [hqq] at hqt
   rw [hcol,hh'] at hnext
   simp [hlt,hqt]
   refine Gm0 hw2 hh2 ⟨h0,hlt⟩ ht (min (top + 4) (hh : Int) - top).toNat top h t b s _ _ _ _ _ _ _ _ _ _ _ _ _ _ _ _ _ _ _ _ _ _ _ _ _ _ _ _ _ _ _ _ _ _ _ _ _ _ _ _ _ _ _ _ _ _ _ _ _ _ _ _ _ _ _ _ _ _ _ _ _ _ _ _ _ _ _ _ _ _ _ _ _ _ _ _ _ _ _ _ _ _ _ _ _ _ _ _ _ _ _ _ _ _ _ _ _ _ _ _ _ _ _ _ _ _ _ _ _ _ _ _ _ _ _ _ _ _ _ _ _ _ _ _ _ _ _ _ _ _ _ _ (by omega) ht.1 hw hh' he (by omega) ?_
   intro h' t' y';intros;rename_i pe st
   simp [hw1]
   exact hnext h' t' _ _ _ _ _ _ _ _ _ _ _ _ _ _ _ _ _ _ _ _ _ _ _ _ _ _ _ _ _ _ _ _ _ _ _ _ _ _ _ _ _ _ _ _ _ _ _ _ _ _ _ _ _ _ _ _ _ _ _ _ _ _ _ _ _ _ _ _ _ _ _ _ _ _ _ _ _ _ _ _ _ _ _ _ _ _ _ _ _ _ _ _ _ _ _ _ _ _ _ _ _ _ _ _ _ _ _ _ _ _ _ _ _ _ _ _ _ _ _ _ _ _ _ _ _ _ _ _ _ _ _ _ _ _ pe st
  ·-- a run length
   have htop : top + 4≤b.h:=by
    simp only [quiet,Bool.and_eq_true,decide_eq_true_eq] at hqq; exact hqq.1
   have hcol : Gy2 P b x top = (Qb5 P b x top).bind fun r=>Gja P r.1 x r.2 (min (top + 4) r.1.h - r.2).toNat:=by unfold Gy2; rw [if_pos hqq]
   obtain ⟨⟨r1,r2,r3⟩,rsz⟩:=Tr.Lv.out (A:=A.ask) (size:=A.size) A.size_ask s (Gzv he.dr.pok he.good hin htop)
   rw [hqq] at hqt
   rw [hcol] at hnext
   simp only [Tr.run_bind] at hnext
   obtain ⟨u1,h1,e1,p1,s1⟩:=Gta he (by omega) 17
   have z1:=A.size_ask s (P.cx 17)
   have hrun : (Qb5 P b x top).run A.ask s = (if (A.ask s (P.cx 17)).1 = true then Tr.ask (P.cx 18) fun k1=>.ask (P.cx 18) fun k0=>(Gi0 P b x (top + Gsn k1 k0)).bind fun b=>.ret (b,top + Gsn k1 k0 + 1) else .ret (b,top + 4)).run A.ask (A.ask s (P.cx 17)).2:=rfl
   rw [hrun] at hnext r1 r2 r3 rsz
   generalize (A.ask s (P.cx 17)).1 = bit at *
   generalize (A.ask s (P.cx 17)).2 = sa at *
   cases bit
   ·simp only [Bool.false_eq_true,if_false,Tr.run_ret] at hnext
    rw [show (min (top + 4) (b.h : Int) - (top + 4)).toNat = 0 by omega,Gja,Tr.run_ret] at hnext
    simp at e1
    simp [hlt,hqt,hq,e1,hw1]
    exact hnext h1 u1 _ _ _ _ _ _ _ _ _ _ _ _ _ _ _ _ _ _ _ _ _ _ _ _ _ _ _ _ _ _ _ _ _ _ _ _ _ _ _ _ _ _ _ _ _ _ _ _ _ _ _ _ _ _ _ _ _ _ _ _ _ _ _ _ _ _ _ _ _ _ _ _ _ _ _ _ _ _ _ _ _ _ _ _ _ _ _ _ _ _ _ _ _ _ _ _ _ _ _ _ _ _ _ _ _ _ _ _ _ _ _ _ _ _ _ _ _ _ _ _ _ _ _ _ _ _ _ _ _ _ _ _ _ _ p1 s1
   ·simp only [if_true,Tr.run_ask,Tr.run_bind,Tr.run_ret] at hnext r1 r2 r3 rsz
    obtain ⟨u2,h2,e2,p2,s2⟩:=Gta p1 (by omega) 18
    have z2:=A.size_ask sa (P.cx 18)
    generalize (A.ask sa (P.cx 18)).1 = k1 at *
    generalize (A.ask sa (P.cx 18)).2 = sb at *
    obtain ⟨u3,h3,e3,p3,s3⟩:=Gta p2 (by omega) 18
    have z3:=A.size_ask sb (P.cx 18)
    generalize (A.ask sb (P.cx 18)).1 = k0 at *
    generalize (A.ask sb (P.cx 18)).2 = sc at *
    have h22:=G19 k1 k0
    have hi4 : b.inb x (top + Gsn k1 k0):=⟨h0,by rw [hw]; exact hlt,by omega,by omega⟩
    obtain ⟨u4,h4,e4,p4,s4⟩:=G7z p3 (by omega) hi4
    have hq1:=p1.dr.blk
    have hq2:=p2.dr.blk
    have hq3:=p3.dr.blk
    simp at e1
    have hwa : IntKind.i64.wrap (2 * ((k1.toNat : Nat) : Int)) = 2 * ((k1.toNat : Nat) : Int):=by cases k1 <;> simp [Gan]
    have hwb : IntKind.i64.wrap (top + 2 * ((k1.toNat : Nat) : Int)) = top + 2 * ((k1.toNat : Nat) : Int):=by cases k1 <;> exact Gan (by simp; omega) (by simp; omega)
    have hwc : IntKind.i64.wrap (top + 2 * ((k1.toNat : Nat) : Int) + ((k0.toNat : Nat) : Int)) = top + (Gsn k1 k0 : Nat):=by
     have : top + 2 * ((k1.toNat : Nat) : Int) + ((k0.toNat : Nat) : Int) = top + (Gsn k1 k0 : Nat):=by unfold Gsn; simp; omega
     rw [this]; exact Gan (by omega) (by omega)
    have hwd : IntKind.i64.wrap (top + ((Gsn k1 k0 : Nat) : Int) + 1) = top + (Gsn k1 k0 : Nat) + 1:=Gan (by omega) (by omega)
    generalize Gsn k1 k0 = kk at *
    generalize ((k1.toNat : Nat) : Int) = k1i at *
    generalize ((k0.toNat : Nat) : Int) = k0i at *
    simp [hlt,hqt,hq,e1,hq1,e2,hwa,hwb,hq2,e3,hwc,hq3,e4,hwd]
    generalize ((Gi0 P b x (top + (kk : Int))).run A.ask sc).1 = bd at *
    generalize ((Gi0 P b x (top + (kk : Int))).run A.ask sc).2 = sd at *
    have hbh : (bd.h : Int) = hh:=by rw [r1.h,hh']
    rw [hbh] at hnext
    refine Gm0 hw2 hh2 ⟨h0,hlt⟩ ht (min (top + 4) (hh : Int) - (top + kk + 1)).toNat (top + kk + 1) h4 u4 bd sd _ _ _ _ _ _ _ _ _ _ _ _ _ _ _ _ _ _ _ _ _ _ _ _ _ _ _ _ _ _ _ _ _ _ _ _ _ _ _ _ _ _ _ _ _ _ _ _ _ _ _ _ _ _ _ _ _ _ _ _ _ _ _ _ _ _ _ _ _ _ _ _ _ _ _ _ _ _ _ _ _ _ _ _ _ _ _ _ _ _ _ _ _ _ _ _ _ _ _ _ _ _ _ _ _ _ _ _ _ _ _ _ _ _ _ _ _ _ _ _ _ _ _ _ _ _ _ _ _ _ _ _ (by omega) (by omega) (by rw [r1.w]; exact hw) (by rw [r1.h]; exact hh') p4 (by omega) ?_
    intro h' t' y';intros;rename_i pe st
    simp [hw1]
    exact hnext h' t' _ _ _ _ _ _ _ _ _ _ _ _ _ _ _ _ _ _ _ _ _ _ _ _ _ _ _ _ _ _ _ _ _ _ _ _ _ _ _ _ _ _ _ _ _ _ _ _ _ _ _ _ _ _ _ _ _ _ _ _ _ _ _ _ _ _ _ _ _ _ _ _ _ _ _ _ _ _ _ _ _ _ _ _ _ _ _ _ _ _ _ _ _ _ _ _ _ _ _ _ _ _ _ _ _ _ _ _ _ _ _ _ _ _ _ _ _ _ _ _ _ _ _ _ _ _ _ _ _ _ _ _ _ _ pe ((((s1.trans s2).trans s3).trans s4).trans st)
theorem Gng {w hh : Nat} (hw2 : w≤64) (hh2 : hh≤64) :
  ∀ (n : Nat) (top : Int) (h : Gag) (t : A.T) (b : BS) (s : A.S) (K2 K3 K4 K6 K7 K8 K9 Ka Kb Kc Kd Ke Kf Kg Kh Ki Kj Kk Kl Km Kn Ko Kp Kq Kr Ks Kt Ku Kv Kw Kx Ky Kz J0 J1 J2 J3 J4 J5 J6 J7 J8 J9 Ja Jb Jc Jd Je Jf Jg Jh Ji Jj Jk Jl Jm Jn Jo Jp Jq Jr Js Jt Ju Jv Jw Jx Jy Jz Y0 Y1 Y2 Y3 Y4 Y5 Y6 Y7 Y8 Y9 Ya Yb Yc Yd Ye Yf Yg Yh Yi Yj Yk Yl Ym Yn Yo Yp Yq Yr Ys Yt Yu Yv Yw Yx Yy Yz Z0 Z1 Z2 Z3 Z4 Z5 Z6 Z7 Z8 Z9 Za Zb Zc Zd Ze Zf Zg Zh Zi Zj Zk Zl Zm Zn Zo Zp Zq Zr Zs Zt Zu : Value),(hh : Int)≤top + 4 * n→top + 4 * n≤hh + 3→0≤top→b.w = w→b.h = hh→PD A h q p pb nb P t b s→A.size s + 12 * w * n + 20 < 1000000 →
   (∀ (h' : Gag) (t' : A.T) (K2 K3 K4 K5 K6 K7 K8 K9 Ka Kb Kc Kd Ke Kf Kg Kh Ki Kj Kk Kl Km Kn Ko Kp Kq Kr Ks Kt Ku Kv Kw Kx Ky Kz J0 J1 J2 J3 J4 J5 J6 J7 J8 J9 Ja Jb Jc Jd Je Jf Jg Jh Ji Jj Jk Jl Jm Jn Jo Jp Jq Jr Js Jt Ju Jv Jw Jx Jy Jz Y0 Y1 Y2 Y3 Y4 Y5 Y6 Y7 Y8 Y9 Ya Yb Yc Yd Ye Yf Yg Yh Yi Yj Yk Yl Ym Yn Yo Yp Yq Yr Ys Yt Yu Yv Yw Yx Yy Yz Z0 Z1 Z2 Z3 Z4 Z5 Z6 Z7 Z8 Z9 Za Zb Zc Zd Ze Zf Zg Zh Zi Zj Zk Zl Zm Zn Zo Zp Zq Zr Zs Zt Zu : Value),PD A h' q p pb nb P t' ((Gb9 P b top n).run A.ask s).1 ((Gb9 P b top n).run A.ask s).2→Stq h h' c (A.own t) (A.own t') →
    Ok tab Gpu k #[ptr q,v1,K2,K3,K4,K5,K6,K7,K8,K9,Ka,Kb,Kc,Kd,Ke,Kf,Kg,Kh,Ki,Kj,Kk,Kl,Km,Kn,Ko,Kp,Kq,Kr,Ks,Kt,Ku,Kv,Kw,Kx,Ky,Kz,J0,J1,J2,J3,J4,J5,J6,J7,J8,J9,Ja,Jb,Jc,Jd,Je,Jf,Jg,Jh,Ji,Jj,Jk,Jl,Jm,Jn,Jo,Jp,Jq,Jr,Js,Jt,Ju,Jv,Jw,Jx,Jy,Jz,Y0,Y1,Y2,Y3,Y4,Y5,Y6,Y7,Y8,Y9,Ya,Yb,Yc,Yd,Ye,Yf,Yg,Yh,Yi,Yj,Yk,Yl,Ym,Yn,Yo,Yp,Yq,Yr,Ys,Yt,Yu,Yv,Yw,Yx,Yy,Yz,Z0,Z1,Z2,Z3,Z4,Z5,Z6,Z7,Z8,Z9,Za,Zb,Zc,Zd,Ze,Zf,Zg,Zh,Zi,Zj,Zk,Zl,Zm,Zn,Zo,Zp,Zq,Zr,Zs,Zt,Zu] h' R) →
   Ok tab Gpu (.inLoop Guo :: .inBlock 0 :: k) #[ptr q,v1,K2,K3,K4,.int .i64 top,K6,K7,K8,K9,Ka,Kb,Kc,Kd,Ke,Kf,Kg,Kh,Ki,Kj,Kk,Kl,Km,Kn,Ko,Kp,Kq,Kr,Ks,Kt,Ku,Kv,Kw,Kx,Ky,Kz,J0,J1,J2,J3,J4,J5,J6,J7,J8,J9,Ja,Jb,Jc,Jd,Je,Jf,Jg,Jh,Ji,Jj,Jk,Jl,Jm,Jn,Jo,Jp,Jq,Jr,Js,Jt,Ju,Jv,Jw,Jx,Jy,Jz,Y0,Y1,Y2,Y3,Y4,Y5,Y6,Y7,Y8,Y9,Ya,Yb,Yc,Yd,Ye,Yf,Yg,Yh,Yi,Yj,Yk,Yl,Ym,Yn,Yo,Yp,Yq,Yr,Ys,Yt,Yu,Yv,Yw,Yx,Yy,Yz,Z0,Z1,Z2,Z3,Z4,Z5,Z6,Z7,Z8,Z9,Za,Zb,Zc,Zd,Ze,Zf,Zg,Zh,Zi,Zj,Zk,Zl,Zm,Zn,Zo,Zp,Zq,Zr,Zs,Zt,Zu] h R:=by
 intro n
 induction n with
 | zero =>
  intro top h t b s;intros;rename_i ha hb h0 hw hh' he hl hk
  have hq:=he.dr.blk
  rw [hw,hh'] at hq
  have hlt : ¬ top < (hh : Int):=by omega
  rw [Gad,G70,Gpq,Gph]
  simp [hq,hlt]
  exact hk h t _ _ _ _ _ _ _ _ _ _ _ _ _ _ _ _ _ _ _ _ _ _ _ _ _ _ _ _ _ _ _ _ _ _ _ _ _ _ _ _ _ _ _ _ _ _ _ _ _ _ _ _ _ _ _ _ _ _ _ _ _ _ _ _ _ _ _ _ _ _ _ _ _ _ _ _ _ _ _ _ _ _ _ _ _ _ _ _ _ _ _ _ _ _ _ _ _ _ _ _ _ _ _ _ _ _ _ _ _ _ _ _ _ _ _ _ _ _ _ _ _ _ _ _ _ _ _ _ _ _ _ _ _ _ _ _ _ he (Stq.refl _ _ _)
 | succ n ih =>
  intro top h t b s;intros;rename_i ha hb h0 hw hh' he hl hk
  have hq:=he.dr.blk
  rw [hw,hh'] at hq
  have hlt : top < (hh : Int):=by omega
  have hw4 : IntKind.i64.wrap (top + 4) = top + 4:=Gan (by omega) (by omega)
  obtain ⟨hle,hsz⟩:=Tr.Lv.out (A:=A.ask) (size:=A.size) A.size_ask s (Goq he.dr.pok (n:=w) he.good (x:=0) (top:=top) (by omega) (by rw [hw]; omega) h0 (by rw [hh']; exact hlt))
  have hmul : 12 * w * (n + 1) = 12 * w * n + 12 * w:=by rw [Nat.mul_add]; omega
  rw [Gb9,hw] at hk
  simp only [Tr.run_bind] at hk
  rw [Gad,G70,Gpq,Gph]
  simp [hq,hlt]
  refine Gx2 hw2 hh2 ⟨h0,hlt⟩ w 0 h t b s _ _ _ _ _ _ _ _ _ _ _ _ _ _ _ _ _ _ _ _ _ _ _ _ _ _ _ _ _ _ _ _ _ _ _ _ _ _ _ _ _ _ _ _ _ _ _ _ _ _ _ _ _ _ _ _ _ _ _ _ _ _ _ _ _ _ _ _ _ _ _ _ _ _ _ _ _ _ _ _ _ _ _ _ _ _ _ _ _ _ _ _ _ _ _ _ _ _ _ _ _ _ _ _ _ _ _ _ _ _ _ _ _ _ _ _ _ _ _ _ _ _ _ _ _ _ _ _ _ _ _ _ _ _ (by omega) (by omega) hw hh' he (by omega) ?_
  intro h' t';intros;rename_i pe st
  simp [hw4]
  refine ih (top + 4) h' t' _ _ _ _ _ _ _ _ _ _ _ _ _ _ _ _ _ _ _ _ _ _ _ _ _ _ _ _ _ _ _ _ _ _ _ _ _ _ _ _ _ _ _ _ _ _ _ _ _ _ _ _ _ _ _ _ _ _ _ _ _ _ _ _ _ _ _ _ _ _ _ _ _ _ _ _ _ _ _ _ _ _ _ _ _ _ _ _ _ _ _ _ _ _ _ _ _ _ _ _ _ _ _ _ _ _ _ _ _ _ _ _ _ _ _ _ _ _ _ _ _ _ _ _ _ _ _ _ _ _ _ _ _ _ _ _ _ _ (by omega) (by omega) (by omega) (by rw [hle.w]; exact hw) (by rw [hle.h]; exact hh') pe (by omega) ?_
  intro h'' t'';intros;rename_i pe2 st2
  exact hk h'' t'' _ _ _ _ _ _ _ _ _ _ _ _ _ _ _ _ _ _ _ _ _ _ _ _ _ _ _ _ _ _ _ _ _ _ _ _ _ _ _ _ _ _ _ _ _ _ _ _ _ _ _ _ _ _ _ _ _ _ _ _ _ _ _ _ _ _ _ _ _ _ _ _ _ _ _ _ _ _ _ _ _ _ _ _ _ _ _ _ _ _ _ _ _ _ _ _ _ _ _ _ _ _ _ _ _ _ _ _ _ _ _ _ _ _ _ _ _ _ _ _ _ _ _ _ _ _ _ _ _ _ _ _ _ _ _ _ _ pe2 (st.trans st2)
theorem Gsu {sl : Value} {pts : List (Int × Int)} :
  ∀ (m i : Nat) (h : Gag) (t : A.T) (b : BS) (s : A.S) (K2 K3 K4 K5 K6 K7 K8 K9 Ka Kb Kc Kd Ke Kf Kg Kh Ki Kj Kk Kl Km Kn Ko Kp Kq Kr Ks Kt Ku Kv Kw Kx Ky Kz J0 J1 J2 J3 J4 J5 J6 J7 J8 J9 Ja Jb Jc Jd Je Jf Jg Jh Ji Jj Jk Jl Jm Jn Jo Jp Jq Jr Js Jt Ju Jv Jw Jx Jy Jz Y0 Y1 Y2 Y3 Y4 Y5 Y6 Y7 Y8 Y9 Ya Yb Yc Yd Ye Yf Yg Yh Yi Yj Yk Yl Ym Yn Yo Yp Yq Yr Ys Yt Yu Yy Yz Z0 Z1 Z2 Z3 Z4 Z5 Z6 Z7 Z8 Z9 Za Zb Zc Zd Ze Zf Zg Zh Zi Zj Zk Zl Zm Zn Zo Zp Zq Zr Zs Zt Zu : Value),m = pts.length - i→i≤pts.length→PD A h q p pb nb P t b s→Fad h sl pts c (A.own t)→Gca b pts→pts.length < 1000000 →
   (∀ (h' : Gag) (K2 K3 K4 K5 K6 K7 K8 K9 Ka Kb Kc Kd Ke Kf Kg Kh Ki Kj Kk Kl Km Kn Ko Kp Kq Kr Ks Kt Ku Kv Kw Kx Ky Kz J0 J1 J2 J3 J4 J5 J6 J7 J8 J9 Ja Jb Jc Jd Je Jf Jg Jh Ji Jj Jk Jl Jm Jn Jo Jp Jq Jr Js Jt Ju Jv Jw Jx Jy Jz Y0 Y1 Y2 Y3 Y4 Y5 Y6 Y7 Y8 Y9 Ya Yb Yc Yd Ye Yf Yg Yh Yi Yj Yk Yl Ym Yn Yo Yp Yq Yr Ys Yt Yu Yv Yw Yx Yy Yz Z0 Z1 Z2 Z3 Z4 Z5 Z6 Z7 Z8 Z9 Za Zb Zc Zd Ze Zf Zg Zh Zi Zj Zk Zl Zm Zn Zo Zp Zq Zr Zs Zt Zu : Value),PD A h' q p pb nb P t (b.clr (pts.drop i)) s→Stq h h' c (A.own t) (A.own t)→Ok tab Gpu k #[ptr q,v1,K2,K3,K4,K5,K6,K7,K8,K9,Ka,Kb,Kc,Kd,Ke,Kf,Kg,Kh,Ki,Kj,Kk,Kl,Km,Kn,Ko,Kp,Kq,Kr,Ks,Kt,Ku,Kv,Kw,Kx,Ky,Kz,J0,J1,J2,J3,J4,J5,J6,J7,J8,J9,Ja,Jb,Jc,Jd,Je,Jf,Jg,Jh,Ji,Jj,Jk,Jl,Jm,Jn,Jo,Jp,Jq,Jr,Js,Jt,Ju,Jv,Jw,Jx,Jy,Jz,Y0,Y1,Y2,Y3,Y4,Y5,Y6,Y7,Y8,Y9,Ya,Yb,Yc,Yd,Ye,Yf,Yg,Yh,Yi,Yj,Yk,Yl,Ym,Yn,Yo,Yp,Yq,Yr,Ys,Yt,Yu,Yv,Yw,Yx,Yy,Yz,Z0,Z1,Z2,Z3,Z4,Z5,Z6,Z7,Z8,Z9,Za,Zb,Zc,Zd,Ze,Zf,Zg,Zh,Zi,Zj,Zk,Zl,Zm,Zn,Zo,Zp,Zq,Zr,Zs,Zt,Zu] h' R) →
   Ok tab Gpu (.inLoop Gus :: .inBlock 6 :: k) #[ptr q,v1,K2,K3,K4,K5,K6,K7,K8,K9,Ka,Kb,Kc,Kd,Ke,Kf,Kg,Kh,Ki,Kj,Kk,Kl,Km,Kn,Ko,Kp,Kq,Kr,Ks,Kt,Ku,Kv,Kw,Kx,Ky,Kz,J0,J1,J2,J3,J4,J5,J6,J7,J8,J9,Ja,Jb,Jc,Jd,Je,Jf,Jg,Jh,Ji,Jj,Jk,Jl,Jm,Jn,Jo,Jp,Jq,Jr,Js,Jt,Ju,Jv,Jw,Jx,Jy,Jz,Y0,Y1,Y2,Y3,Y4,Y5,Y6,Y7,Y8,Y9,Ya,Yb,Yc,Yd,Ye,Yf,Yg,Yh,Yi,Yj,Yk,Yl,Ym,Yn,Yo,Yp,Yq,Yr,Ys,Yt,Yu,sl,.int .i64 pts.length,.int .i64 i,Yy,Yz,Z0,Z1,Z2,Z3,Z4,Z5,Z6,Z7,Z8,Z9,Za,Zb,Zc,Zd,Ze,Zf,Zg,Zh,Zi,Zj,Zk,Zl,Zm,Zn,Zo,Zp,Zq,Zr,Zs,Zt,Zu] h R:=by
 intro m
 induction m with
 | zero =>
  intro i h t b s;intros;rename_i hm hi he hf ha hpl hk
  have hlt : ¬ ((i : Int) < pts.length):=by omega
  rw [Gad,G7e,Gn6,Gpp]
  simp [hlt]
  refine hk h _ _ _ _ _ _ _ _ _ _ _ _ _ _ _ _ _ _ _ _ _ _ _ _ _ _ _ _ _ _ _ _ _ _ _ _ _ _ _ _ _ _ _ _ _ _ _ _ _ _ _ _ _ _ _ _ _ _ _ _ _ _ _ _ _ _ _ _ _ _ _ _ _ _ _ _ _ _ _ _ _ _ _ _ _ _ _ _ _ _ _ _ _ _ _ _ _ _ _ _ _ _ _ _ _ _ _ _ _ _ _ _ _ _ _ _ _ _ _ _ _ _ _ _ _ _ _ _ _ _ _ _ _ _ _ _ _ ?_ (Stq.refl _ _ _)
  rw [List.drop_of_length_le (by omega)]; exact he
 | succ m ih =>
  intro i h t b s;intros;rename_i hm hi he hf ha hpl hk
  have hlt : ((i : Int) < pts.length):=by omega
  have hw : IntKind.i64.wrap ((i : Int) + 1) = (i : Int) + 1:=Gbc (n:=i + 1) (by omega)
  have hil : i < pts.length:=by omega
  obtain ⟨id,off,blk,hs,hb,ht,hle⟩:=hf.get hil
  have hin:=ha _ (List.getElem_mem hil)
  have hsp : b.clr (pts.drop i) = (b.upd pts[i].1 pts[i].2 (Gbz false)).clr (pts.drop (i + 1)):=by
   rw [List.drop_eq_getElem_cons hil]; rfl
  generalize hx : pts[i].1 = x at *
  generalize hy : pts[i].2 = y at *
  rw [hsp] at hk
  have he2:=he.push (some ⟨false,[.int .i64 x,.int .i64 y]⟩)
  have hs2:=Stq.push h (some ⟨false,[.int .i64 x,.int .i64 y]⟩) c (A.own t)
  have hf2:=hf.stq hs2
  have hK : ∀ y : Blk,blk? (h++[some y]) h.length = some y:=fun y=>blk?_push_eq
  have hq2:=he2.dr.blk
  have htc:=fun R=>Ghy (R:=R) (v:=false) he2.dr.cb (x:=x) (y:=y) hin
  have hl1:=Gdr he.good hin (Gbh false)
  obtain ⟨p4,s4⟩:=he2.to hl1
  have hmm : (fun z : Cell=>({ z with t:=false } : Cell)) = Gbz false:=rfl
  rw [hmm] at htc
  have hls : (h++[some (⟨false,[.int .i64 x,.int .i64 y]⟩ : Blk)]).set c (some ⟨false,Gco (b.upd x y (Gbz false)).cs⟩) = h.set c (some ⟨false,Gco (b.upd x y (Gbz false)).cs⟩)++[some ⟨false,[.int .i64 x,.int .i64 y]⟩] :=
   List.set_append_left _ _ he.lts.2.2.1
  rw [Gad,G7e,Gn6,Gpp]
  rw [hls] at htc p4 s4
  simp [-List.cons_append,-List.append_assoc,hlt,hw,hs,hb,ht,hle,hK,hq2,htc]
  rw [← hs]
  have st4:=hs2.trans s4
  refine ih (i + 1) _ t _ s _ _ _ _ _ _ _ _ _ _ _ _ _ _ _ _ _ _ _ _ _ _ _ _ _ _ _ _ _ _ _ _ _ _ _ _ _ _ _ _ _ _ _ _ _ _ _ _ _ _ _ _ _ _ _ _ _ _ _ _ _ _ _ _ _ _ _ _ _ _ _ _ _ _ _ _ _ _ _ _ _ _ _ _ _ _ _ _ _ _ _ _ _ _ _ _ _ _ _ _ _ _ _ _ _ _ _ _ _ _ _ _ _ _ _ _ _ _ _ _ _ _ _ _ _ _ _ _ _ _ _ _ _ _ (by omega) (by omega) p4 (hf.stq st4) (hl1.all ha) hpl ?_
  intro h';intros;rename_i pe st
  exact hk h' _ _ _ _ _ _ _ _ _ _ _ _ _ _ _ _ _ _ _ _ _ _ _ _ _ _ _ _ _ _ _ _ _ _ _ _ _ _ _ _ _ _ _ _ _ _ _ _ _ _ _ _ _ _ _ _ _ _ _ _ _ _ _ _ _ _ _ _ _ _ _ _ _ _ _ _ _ _ _ _ _ _ _ _ _ _ _ _ _ _ _ _ _ _ _ _ _ _ _ _ _ _ _ _ _ _ _ _ _ _ _ _ _ _ _ _ _ _ _ _ _ _ _ _ _ _ _ _ _ _ _ _ _ _ _ _ _ pe (st4.trans st)
theorem G5k (r : Bool) (x : Bool) (l : List Bool) (s : A.S) : (G7i P r (x :: l)).run A.ask s = (G7i P (r && (A.ask s (P.cx 18)).1 == x) l).run A.ask (A.ask s (P.cx 18)).2:=rfl
def b2i (x : Bool) : Value:=.int .i64 (x.toNat : Nat)
theorem Gsk {z : Nat} {bits : List Bool} (hbl : bits.length≤4) :
  ∀ (m i : Nat) (h : Gag) (t : A.T) (s : A.S) (r : Bool) (K1 K2 K3 K4 K5 K6 K7 K8 K9 Kb Kc Kd Ke Kf Kg Kh Ki Kj Kk Kl Km Kn Ko Kp Kq Kr Ks Kt Ku Kv Kw Kx Ky Kz J0 J1 J2 J3 J4 J5 J6 J7 J8 J9 Ja Jb Jc Jd Je Jf Jg Jh Ji Jj Jk Jl Jm Jn Jo Jp Jq Jr Js Jt Ju Jv Jw Jx Jy Jz Y0 Y1 Y2 Y3 Y4 Y5 Y6 Y7 Y8 Y9 Ya Yb Yc Yd Ye Yf Yg Yh Yi Yj Yk Yl Ym Yn Yo Yp Yq Yr Ys Yt Yu Yv Yw Yx Yy Yz Z0 Z1 Z2 Z3 Z4 Z5 Z6 Z7 Z8 Z9 Za Zb Zf Zg Zh Zi Zj Zk Zl Zm Zn Zo Zp Zq Zr Zs Zt Zu : Value),m = bits.length - i→i≤bits.length→PD A h q p pb nb P t b s →
   blk? h z = some ⟨false,bits.map b2i⟩→(z ≠ c∧¬ A.own t z)→A.size s + 10 < 1000000 + i →
   (∀ (h' : Gag) (t' : A.T) (K1 K2 K3 K4 K5 K6 K7 K8 K9 Kb Kc Kd Ke Kf Kg Kh Ki Kj Kk Kl Km Kn Ko Kp Kq Kr Ks Kt Ku Kv Kw Kx Ky Kz J0 J1 J2 J3 J4 J5 J6 J7 J8 J9 Ja Jb Jc Jd Je Jf Jg Jh Ji Jj Jk Jl Jm Jn Jo Jp Jq Jr Js Jt Ju Jv Jw Jx Jy Jz Y0 Y1 Y2 Y3 Y4 Y5 Y6 Y7 Y8 Y9 Ya Yb Yc Yd Ye Yf Yg Yh Yi Yj Yk Yl Ym Yn Yo Yp Yq Yr Ys Yt Yu Yv Yw Yx Yy Yz Z0 Z1 Z2 Z3 Z4 Z5 Z6 Z7 Z8 Z9 Za Zb Zc Zd Ze Zf Zg Zh Zi Zj Zk Zl Zm Zn Zo Zp Zq Zr Zs Zt Zu : Value),PD A h' q p pb nb P t' b ((G7i P r (bits.drop i)).run A.ask s).2→Stq h h' c (A.own t) (A.own t')→Ok tab Gpu k #[ptr q,K1,K2,K3,K4,K5,K6,K7,K8,K9,.bool ((G7i P r (bits.drop i)).run A.ask s).1,Kb,Kc,Kd,Ke,Kf,Kg,Kh,Ki,Kj,Kk,Kl,Km,Kn,Ko,Kp,Kq,Kr,Ks,Kt,Ku,Kv,Kw,Kx,Ky,Kz,J0,J1,J2,J3,J4,J5,J6,J7,J8,J9,Ja,Jb,Jc,Jd,Je,Jf,Jg,Jh,Ji,Jj,Jk,Jl,Jm,Jn,Jo,Jp,Jq,Jr,Js,Jt,Ju,Jv,Jw,Jx,Jy,Jz,Y0,Y1,Y2,Y3,Y4,Y5,Y6,Y7,Y8,Y9,Ya,Yb,Yc,Yd,Ye,Yf,Yg,Yh,Yi,Yj,Yk,Yl,Ym,Yn,Yo,Yp,Yq,Yr,Ys,Yt,Yu,Yv,Yw,Yx,Yy,Yz,Z0,Z1,Z2,Z3,Z4,Z5,Z6,Z7,Z8,Z9,Za,Zb,Zc,Zd,Ze,Zf,Zg,Zh,Zi,Zj,Zk,Zl,Zm,Zn,Zo,Zp,Zq,Zr,Zs,Zt,Zu] h' R) →
   Ok tab Gpu (.inLoop Gqq :: .inBlock 8 :: k) #[ptr q,K1,K2,K3,K4,K5,K6,K7,K8,K9,.bool r,Kb,Kc,Kd,Ke,Kf,Kg,Kh,Ki,Kj,Kk,Kl,Km,Kn,Ko,Kp,Kq,Kr,Ks,Kt,Ku,Kv,Kw,Kx,Ky,Kz,J0,J1,J2,J3,J4,J5,J6,J7,J8,J9,Ja,Jb,Jc,Jd,Je,Jf,Jg,Jh,Ji,Jj,Jk,Jl,Jm,Jn,Jo,Jp,Jq,Jr,Js,Jt,Ju,Jv,Jw,Jx,Jy,Jz,Y0,Y1,Y2,Y3,Y4,Y5,Y6,Y7,Y8,Y9,Ya,Yb,Yc,Yd,Ye,Yf,Yg,Yh,Yi,Yj,Yk,Yl,Ym,Yn,Yo,Yp,Yq,Yr,Ys,Yt,Yu,Yv,Yw,Yx,Yy,Yz,Z0,Z1,Z2,Z3,Z4,Z5,Z6,Z7,Z8,Z9,Za,Zb,.slice (some ⟨z,0,none⟩) bits.length 1,.int .i64 bits.length,.int .i64 i,Zf,Zg,Zh,Zi,Zj,Zk,Zl,Zm,Zn,Zo,Zp,Zq,Zr,Zs,Zt,Zu] h R:=by
 intro m
 induction m with
 | zero =>
  intro i h t s r;intros;rename_i hm hi he hz hn hl hk
  have hlt : ¬ ((i : Int) < bits.length):=by omega
  rw [List.drop_of_length_le (by omega)] at hk
  rw [Gad,G8i,Gnx,Gof]
  simp [hlt]
  exact hk h t _ _ _ _ _ _ _ _ _ _ _ _ _ _ _ _ _ _ _ _ _ _ _ _ _ _ _ _ _ _ _ _ _ _ _ _ _ _ _ _ _ _ _ _ _ _ _ _ _ _ _ _ _ _ _ _ _ _ _ _ _ _ _ _ _ _ _ _ _ _ _ _ _ _ _ _ _ _ _ _ _ _ _ _ _ _ _ _ _ _ _ _ _ _ _ _ _ _ _ _ _ _ _ _ _ _ _ _ _ _ _ _ _ _ _ _ _ _ _ _ _ _ _ _ _ _ _ _ _ _ _ _ _ _ _ _ _ he (Stq.refl _ _ _)
 | succ m ih =>
  intro i h t s r;intros;rename_i hm hi he hz hn hl hk
  have hlt : ((i : Int) < bits.length):=by omega
  have hw : IntKind.i64.wrap ((i : Int) + 1) = (i : Int) + 1:=Gbc (n:=i + 1) (by omega)
  have hil : i < bits.length:=by omega
  have hq:=he.dr.blk
  rw [List.drop_eq_getElem_cons hil,G5k] at hk
  obtain ⟨u1,h1,e1,p1,s1⟩:=Gta he (by omega) 18
  have z1:=A.size_ask s (P.cx 18)
  generalize (A.ask s (P.cx 18)).1 = bit at *
  generalize (A.ask s (P.cx 18)).2 = sa at *
  have hz1 : blk? h1 z = some ⟨false,bits.map b2i⟩:=by rw [s1.same z (blk?_lt hz) hn.1 hn.2]; exact hz
  have hn1 : z ≠ c∧¬ A.own u1 z:=⟨hn.1,fun e=>by
   rcases s1.fresh z e with h | h
   ·exact hn.2 h
   ·have:=blk?_lt hz; omega⟩
  have hget : bits[i]? = some bits[i]:=List.getElem?_eq_getElem hil
  have hcmp : (((bit.toNat : Nat) : Int) == ((bits[i].toNat : Nat) : Int)) = (bit == bits[i]):=by cases bit <;> cases bits[i] <;> rfl
  rw [Gad,G8i,Gnx,Gof]
  have hgo : ∀ K1 K2 K3 K4 K5 K6 K7 K8 K9 Kb Kc Kd Ke Kf Kg Kh Ki Kj Kk Kl Km Kn Ko Kp Kq Kr Ks Kt Ku Kv Kw Kx Ky Kz J0 J1 J2 J3 J4 J5 J6 J7 J8 J9 Ja Jb Jc Jd Je Jf Jg Jh Ji Jj Jk Jl Jm Jn Jo Jp Jq Jr Js Jt Ju Jv Jw Jx Jy Jz Y0 Y1 Y2 Y3 Y4 Y5 Y6 Y7 Y8 Y9 Ya Yb Yc Yd Ye Yf Yg Yh Yi Yj Yk Yl Ym Yn Yo Yp Yq Yr Ys Yt Yu Yv Yw Yx Yy Yz Z0 Z1 Z2 Z3 Z4 Z5 Z6 Z7 Z8 Z9 Za Zb Zf Zg Zh Zi Zj Zk Zl Zm Zn Zo Zp Zq Zr Zs Zt Zu : Value,Ok tab Gpu (.inLoop Gqq :: .inBlock 8 :: k) #[ptr q,K1,K2,K3,K4,K5,K6,K7,K8,K9,.bool (r && bit == bits[i]),Kb,Kc,Kd,Ke,Kf,Kg,Kh,Ki,Kj,Kk,Kl,Km,Kn,Ko,Kp,Kq,Kr,Ks,Kt,Ku,Kv,Kw,Kx,Ky,Kz,J0,J1,J2,J3,J4,J5,J6,J7,J8,J9,Ja,Jb,Jc,Jd,Je,Jf,Jg,Jh,Ji,Jj,Jk,Jl,Jm,Jn,Jo,Jp,Jq,Jr,Js,Jt,Ju,Jv,Jw,Jx,Jy,Jz,Y0,Y1,Y2,Y3,Y4,Y5,Y6,Y7,Y8,Y9,Ya,Yb,Yc,Yd,Ye,Yf,Yg,Yh,Yi,Yj,Yk,Yl,Ym,Yn,Yo,Yp,Yq,Yr,Ys,Yt,Yu,Yv,Yw,Yx,Yy,Yz,Z0,Z1,Z2,Z3,Z4,Z5,Z6,Z7,Z8,Z9,Za,Zb,.slice (some ⟨z,0,none⟩) bits.length 1,.int .i64 bits.length,.int .i64 ((i : Int) + 1),Zf,Zg,Zh,Zi,Zj,Zk,Zl,Zm,Zn,Zo,Zp,Zq,Zr,Zs,Zt,Zu] h1 R:=by
   intros
   refine ih (i + 1) h1 u1 sa _ _ _ _ _ _ _ _ _ _ _ _ _ _ _ _ _ _ _ _ _ _ _ _ _ _ _ _ _ _ _ _ _ _ _ _ _ _ _ _ _ _ _ _ _ _ _ _ _ _ _ _ _ _ _ _ _ _ _ _ _ _ _ _ _ _ _ _ _ _ _ _ _ _ _ _ _ _ _ _ _ _ _ _ _ _ _ _ _ _ _ _ _ _ _ _ _ _ _ _ _ _ _ _ _ _ _ _ _ _ _ _ _ _ _ _ _ _ _ _ _ _ _ _ _ _ _ _ _ _ _ _ _ _ _ (by omega) (by omega) p1 hz1 hn1 (by omega) ?_
   intro h' t';intros;rename_i pe st
   exact hk h' t' _ _ _ _ _ _ _ _ _ _ _ _ _ _ _ _ _ _ _ _ _ _ _ _ _ _ _ _ _ _ _ _ _ _ _ _ _ _ _ _ _ _ _ _ _ _ _ _ _ _ _ _ _ _ _ _ _ _ _ _ _ _ _ _ _ _ _ _ _ _ _ _ _ _ _ _ _ _ _ _ _ _ _ _ _ _ _ _ _ _ _ _ _ _ _ _ _ _ _ _ _ _ _ _ _ _ _ _ _ _ _ _ _ _ _ _ _ _ _ _ _ _ _ _ _ _ _ _ _ _ _ _ _ _ _ _ _ pe (s1.trans st)
  have hbi : b2i bits[i] = .int .i64 ((bits[i].toNat : Nat) : Int):=rfl
  generalize bits[i] = bi at *
  generalize ((bit.toNat : Nat) : Int) = bn at *
  generalize ((bi.toNat : Nat) : Int) = bm at *
  cases r
  ·simp at hgo
   simp [Gaa,hlt,hw,hz,hget,hbi,hq,e1]
   exact hgo ..
  ·rw [Bool.true_and] at hgo
   simp [Gaa,hlt,hw,hz,hget,hbi,hq,e1,hcmp]
   exact hgo ..
theorem Gzl (he : PD A h q p pb nb P t b s) (hl : A.size s + 100000 < 1000000) (on : Bool) :
  ∃ t' h',(∀ R,Ret tab 112 [ptr q,.bool on] h R = R (.bool ((Gds P b on).run A.ask s).1.2) h')∧PD A h' q p pb nb P t' ((Gds P b on).run A.ask s).1.1 ((Gds P b on).run A.ask s).2∧Stq h h' c (A.own t) (A.own t'):=by
 have key : Ret tab 112 [ptr q,.bool on] h fun v h'=>v = .bool ((Gds P b on).run A.ask s).1.2∧∃ t',PD A h' q p pb nb P t' ((Gds P b on).run A.ask s).1.1 ((Gds P b on).run A.ask s).2∧Stq h h' c (A.own t) (A.own t'):=by
  have hw2:=he.dr.cb.ok.w2
  have hh2:=he.dr.cb.ok.h2
  have hsl:=Ggk he.dr.cb.ok.w2 he.dr.cb.ok.h2
  have hst : 12 * b.w * Gai b.h≤12 * 64 * 16:=Nat.mul_le_mul (by omega) (by unfold Gai; omega)
  have g1 : (b.h : Int)≤0 + 4 * ((Gai b.h : Nat) : Int):=by unfold Gai; omega
  have g2 : 0 + 4 * ((Gai b.h : Nat) : Int)≤b.h + 3:=by unfold Gai; omega
  obtain ⟨hls,hsz⟩:=Tr.Lv.out (A:=A.ask) (size:=A.size) A.size_ask s (Gg0 he.dr.pok (n:=Gai b.h) he.good (top:=0) (by omega) g2)
  have hcl : (Gds P b on).run A.ask s = ((((Gb9 P b 0 (Gai b.h)).run A.ask s).1.clr (scan b.w b.h),((Ghe P on).run A.ask ((Gb9 P b 0 (Gai b.h)).run A.ask s).2).1),((Ghe P on).run A.ask ((Gb9 P b 0 (Gai b.h)).run A.ask s).2).2):=by
   unfold Gds
   simp only [Tr.run_bind,Tr.run_ret]
   rw [hls.w,hls.h]
  rw [hcl]
  rw [G5z,show G2g = .seq (Gau 0 G2g) (.seq (Gau 1 G2g) (.seq (Gau 2 G2g) (tlC 3 G2g))) from rfl]
  generalize hT : tlC 3 G2g = tl
  simp only [Gau,tlC,Gd5,G2g]
  simp
  refine Gng hw2 hh2 (Gai b.h) 0 h t b s _ _ _ _ _ _ _ _ _ _ _ _ _ _ _ _ _ _ _ _ _ _ _ _ _ _ _ _ _ _ _ _ _ _ _ _ _ _ _ _ _ _ _ _ _ _ _ _ _ _ _ _ _ _ _ _ _ _ _ _ _ _ _ _ _ _ _ _ _ _ _ _ _ _ _ _ _ _ _ _ _ _ _ _ _ _ _ _ _ _ _ _ _ _ _ _ _ _ _ _ _ _ _ _ _ _ _ _ _ _ _ _ _ _ _ _ _ _ _ _ _ _ _ _ _ _ _ _ _ _ _ _ _ _ _ _ g1 g2 (by omega) rfl rfl he (by omega) ?_
  intro h1 u1;intros;rename_i p1 s1
  generalize ((Gb9 P b 0 (Gai b.h)).run A.ask s).1 = b1 at *
  generalize ((Gb9 P b 0 (Gai b.h)).run A.ask s).2 = sa at *
  obtain ⟨sl,h2,e2,p2,s2,f2⟩:=p1.scan
  obtain ⟨a,cc,hs⟩:=f2.sl.shape
  have hq1:=p1.dr.blk
  rw [hls.w,hls.h] at e2 f2 hs hq1
  simp [hq1,e2,hs]
  rw [← hs]
  have hall : Gca b1 (scan b.w b.h):=by have:=Gc3 b1; rwa [hls.w,hls.h] at this
  refine Gsu _ 0 h2 u1 b1 sa _ _ _ _ _ _ _ _ _ _ _ _ _ _ _ _ _ _ _ _ _ _ _ _ _ _ _ _ _ _ _ _ _ _ _ _ _ _ _ _ _ _ _ _ _ _ _ _ _ _ _ _ _ _ _ _ _ _ _ _ _ _ _ _ _ _ _ _ _ _ _ _ _ _ _ _ _ _ _ _ _ _ _ _ _ _ _ _ _ _ _ _ _ _ _ _ _ _ _ _ _ _ _ _ _ _ _ _ _ _ _ _ _ _ _ _ _ _ _ _ _ _ _ _ _ _ _ _ _ _ _ _ _ _ rfl (by omega) p2 f2 hall (by omega) ?_
  intro h3;intros;rename_i p3 s3
  rw [List.drop_zero] at p3
  rw [← hT]
  simp only [tlC,G2g]
  cases on
  ·simp [G61]
   exact ⟨by simp [Ghe,Tr.run_ret],u1,p3,(s1.trans s2).trans s3⟩
  ·have p4:=p3.push (some ⟨false,[.int .i64 1,.int .i64 0,.int .i64 1,.int .i64 0]⟩)
   have s4:=Stq.push h3 (some ⟨false,[.int .i64 1,.int .i64 0,.int .i64 1,.int .i64 0]⟩) c (A.own u1)
   obtain ⟨l1,l2,l3,l4,l5⟩:=p3.lts
   have hdc : Ghe P true = G7i P true [true,false,true,false]:=rfl
   rw [hdc]
   simp [Gd4]
   refine Gsk (z:=h3.length) (bits:=[true,false,true,false]) (by simp) 4 0 _ u1 sa true _ _ _ _ _ _ _ _ _ _ _ _ _ _ _ _ _ _ _ _ _ _ _ _ _ _ _ _ _ _ _ _ _ _ _ _ _ _ _ _ _ _ _ _ _ _ _ _ _ _ _ _ _ _ _ _ _ _ _ _ _ _ _ _ _ _ _ _ _ _ _ _ _ _ _ _ _ _ _ _ _ _ _ _ _ _ _ _ _ _ _ _ _ _ _ _ _ _ _ _ _ _ _ _ _ _ _ _ _ _ _ _ _ _ _ _ _ _ _ _ _ _ _ _ _ _ _ _ _ _ _ _ _ _ (by simp) (by simp) p4 ?_ ⟨by omega,fun e=>by have:=A.lt p3.rel _ e; omega⟩ (by omega) ?_
   ·simpa [b2i] using blk?_push_eq (h:=h3) (x:=some (⟨false,[.int .i64 1,.int .i64 0,.int .i64 1,.int .i64 0]⟩ : Blk))
   ·intro h5 u5;intros;rename_i p5 s5
    simp [G61]
    exact ⟨u5,by simpa using p5,(((s1.trans s2).trans s3).trans s4).trans s5⟩
 obtain ⟨v,h',e,rfl,t',pe,st⟩:=Gck key
 exact ⟨t',h',e,pe,st⟩
end
open Go.Sim
open Go.RowKit
def Gn2 (m : MD) (b : BS) (n planes o : Nat) : Tr (BS × Bool) :=
 if kindOf n = 0 then (Ggx (Gc9 m n planes o) b (scan b.w b.h)).bind fun b=>.ret (b,true)
 else if kindOf n = 1 then (Ggy (Gc9 m n planes o) b (scan b.w b.h)).bind fun b=>.ret (b,true)
 else Gds (Gc9 m n planes o) b m.sy
theorem Gjh {m : MD} {n planes o : Nat} (hpl : planes≤60) (h1 : 1≤planes) (ho : o≤3) : (Gc9 m n planes o).Ok:=⟨by simp only [Gc9]; omega,ho⟩
theorem Gsp {m : MD} {b : BS} (hg : b.Good) {n planes o : Nat} (hp : (Gc9 m n planes o).Ok) : (Gn2 m b n planes o).Lv (fun r=>b.Le r.1) 20000:=by
 have hl : (scan b.w b.h).length≤4096:=by
  have hw:=hg.ok.w2
  have hh:=hg.ok.h2
  have:=Gfn b.w b.h (Gai b.h) 0
  have h2 : 4 * b.w * Gai b.h≤4 * 64 * 16:=Nat.mul_le_mul (by omega) (by unfold Gai; omega)
  unfold scan; omega
 unfold Gn2
 split
 ·exact (Tr.Lv.bind (m:=0) (Q':=fun r : BS × Bool=>b.Le r.1) (fun a ha=>ha) (Gud hp hg (Gc3 b))).mono (fun _ h=>h) (by omega)
 ·split
  ·exact (Tr.Lv.bind (m:=0) (Q':=fun r : BS × Bool=>b.Le r.1) (fun a ha=>ha) (Gvo hg (Gc3 b))).mono (fun _ h=>h) (by omega)
  ·exact Gyh hp hg m.sy
def Giz (s : List (Int × Int) × Bool) (c : Int) : Bool × (List (Int × Int) × Bool) :=
 match s with
 | (l,true)=>(false,(l,true))
 | ([],false)=>(false,([],true))
 | (p :: l,false)=>if p.1 = c∧(p.2 = 0∨p.2 = 1) then (p.2 == 1,(l,false)) else (false,(p :: l,true))
theorem Goi {α : Type} : ∀ (t : Tr α) (l : List (Int × Int)),(t.run Giz (l,true)).2 = (l,true)
 | .ret a,l=>rfl
 | .ask c k,l=>Goi (k false) l
theorem Gq0 {α : Type} : ∀ (t : Tr α) (l : List (Int × Int)),(∀ a l',t.play l = some (a,l')→t.run Giz (l,false) = (a,(l',false)))∧(t.play l = none→(t.run Giz (l,false)).2.2 = true)
 | .ret a,l=>⟨fun a' l' h=>by simp only [Tr.play] at h; injection h with h; injection h with h1 h2; subst h1 h2; rfl,fun h=>by simp [Tr.play] at h⟩
 | .ask c k,[]=>⟨fun a l' h=>by simp [Tr.play] at h,fun _=>by
  show ((k false).run Giz ([],true)).2.2 = true
  rw [Goi]⟩
 | .ask c k,p :: l=>by
  rw [Tr.play,Tr.run_ask]
  by_cases hp : p.1 = c∧(p.2 = 0∨p.2 = 1)
  ·have e : Giz (p :: l,false) c = (p.2 == 1,(l,false)):=by simp only [Giz]; rw [if_pos hp]
   rw [if_pos hp,e]
   exact Gq0 (k (p.2 == 1)) l
  ·have e : Giz (p :: l,false) c = (false,(p :: l,true)):=by simp only [Giz]; rw [if_neg hp]
   rw [if_neg hp,e]
   refine ⟨fun a l' h=>(by cases h),fun _=>?_⟩
   show ((k false).run Giz (p :: l,true)).2.2 = true
   rw [Goi]
def fits (ss : List (Int × Int)) (qs : List (Int × Int)) : Prop:=∀ i (h : i < qs.length),∃ p,ss[i]? = some p∧p.1 = qs[i].1∧(p.2 = 0∨p.2 = 1)
instance (ss qs : List (Int × Int)) : Decidable (fits ss qs):=by
 unfold fits
 refine decidable_of_iff (∀ i : Fin qs.length,(match ss[i.1]? with | some p=>decide (p.1 = qs[i.1].1∧(p.2 = 0∨p.2 = 1)) | none=>false) = true) ⟨fun h i hi=>?_,fun h i=>?_⟩
 ·have:=h ⟨i,hi⟩
  simp only at this
  cases hs : ss[i]? with
  | none=>rw [hs] at this; simp at this
  | some p=>rw [hs] at this; exact ⟨p,rfl,by simpa using this⟩
 ·obtain ⟨p,h1,h2⟩:=h i.1 i.2
  rw [h1]; simpa using h2
def Gea (m : MD) (planes o : Nat) : Nat→BS→List (List (Int × Int))→BS × Int
 | _,b,[]=>(b,0)
 | n,b,l :: ls =>
  match (Gn2 m b n planes o).play l with
  | none=>(b,8)
  | some (r,l')=>if r.2 = false then (r.1,16) else match l' with | []=>Gea m planes o (n + 1) r.1 ls | _ :: _=>(r.1,8)
def leftOf (planes : Int) (n : Nat) (t : Bool) : Int:=if n = 0 then planes else planes - 1 - (Gas (n - 1) : Int) + if (kindOf (n - 1) != 2 && !t) = true then 1 else 0
theorem Gie {planes : Int} {n : Nat} (hn : n ≠ 0) (t : Bool) : leftOf planes n t = planes - 1 - (Gas (n - 1) : Int) + if (kindOf (n - 1) != 2 && !t) = true then 1 else 0:=by unfold leftOf; rw [if_neg hn]
def Gey (n : Nat) (planes w h o : Int) : Int:=if ¬ sized w h∨planes < 0∨60 < planes then 2 else if max 0 (3 * planes - 2) < (n : Int) then 4 else if o < 0∨3 < o then 3 else 0
def Gdy (ss : List (List (Int × Int))) (planes w h o : Int) (m : MD) : Int × List Int × List Int :=
 if Gey ss.length planes w h o ≠ 0 then (Gey ss.length planes w h o,[],[])
 else
  let r:=Gea m planes.toNat o.toNat 0 (Gcb w.toNat h.toNat) ss
  if r.2 ≠ 0 then (r.2,[],[]) else (0,r.1.cs.map (·.v),r.1.cs.map fun c=>leftOf planes ss.length c.t)
def Gkc {S : Type} (A : S→Int→Bool × S) (m : MD) (b : BS) (n planes o : Int) (s : S) : (BS × Bool) × S:=if Gbj n planes o = 0 then (Gn2 m b n.toNat planes.toNat o.toNat).run A s else ((b,true),s)
def Gx7 (n planes o : Int) (ok : Bool) : Int:=if Gbj n planes o ≠ 0 then Gbj n planes o else cond ok 0 16
structure Qbl {c : Nat} {call : Gag→Int→(RP)→Prop} (A : Src c call) (h h' : Gag) (p : Nat) (t t' : A.T) (b : BS) (s : A.S) : Prop where
 cb : CB h' false p c b
 good : b.Good
 rel : A.rel h' t' s
 st : Stq h h' c (A.own t) (A.own t')
theorem Ggu {f : Fn} {a b : Array Value} : eqV .func (.func f a b) .nilFunc = some false:=by simp [eqV]
section
variable {c : Nat} {g : FuncId} {fa fb : Array Value} {A : Src c (Glx (.func (.func g) fa fb))} {h : Gag} {p : Nat} {t : A.T} {b : BS} {s : A.S}
theorem Qbl.nothing {h h' : Gag} (hb : CB h false p c b) (hr : b.Rng) (hrel : A.rel h t s) (hk : ∀ id,id < h.length→blk? h' id = blk? h id) (hl : h.length≤h'.length) : Qbl A h h' p t t b s :=
 ⟨⟨by rw [hk _ (blk?_lt hb.blkp)]; exact hb.blkp,by rw [hk _ (blk?_lt hb.blkc)]; exact hb.blkc,hb.ok⟩,⟨hb.ok,hr⟩,A.stable hrel hl (fun id h1 _=>hk id h1),Stq.low hk hl _ _⟩
theorem Qch (hb : CB h false p c b) (hr : b.Rng) (hrel : A.rel h t s) (hp : ¬ A.own t p) (hnv : below h.length (.func (.func g) fa fb) = true) (hl : A.size s + 100000 < 1000000) (n planes o : Int) (m : MD) :
  ∃ t' h',(∀ R,Ret tab 60 [ptr p,.int .i64 n,.int .i64 planes,.int .i64 o,m.val,.func (.func g) fa fb] h R = R (.int .i64 (Gx7 n planes o (Gkc A.ask m b n planes o s).1.2)) h') ∧
   Qbl A h h' p t t' (Gkc A.ask m b n planes o s).1.1 (Gkc A.ask m b n planes o s).2:=by
 have key : Ret tab 60 [ptr p,.int .i64 n,.int .i64 planes,.int .i64 o,m.val,.func (.func g) fa fb] h fun v h'=>v = .int .i64 (Gx7 n planes o (Gkc A.ask m b n planes o s).1.2)∧∃ t',Qbl A h h' p t t' (Gkc A.ask m b n planes o s).1.1 (Gkc A.ask m b n planes o s).2:=by
  have hb1 : CB (h++[some ⟨false,[.bool m.byp,.bool m.res,.bool m.rst,.bool m.cz,.bool m.sy]⟩,some ⟨false,[.func (.func g) fa fb]⟩]) false p c b:=⟨by rw [Gbf (blk?_lt hb.blkp)]; exact hb.blkp,by rw [Gbf (blk?_lt hb.blkc)]; exact hb.blkc,hb.ok⟩
  have hsz:=fun R=>G63 (R:=R) hb1
  have hw0:=hb.ok.w1
  have hw0' : ((b.w : Int) == 0) = false:=by simp; omega
  have hnone : Gbj n planes o ≠ 0→∀ h',(∀ id,id < h.length→blk? h' id = blk? h id)→h.length≤h'.length→∃ t',Qbl A h h' p t t' (Gkc A.ask m b n planes o s).1.1 (Gkc A.ask m b n planes o s).2:=by
   intro he h' hk hl
   unfold Gkc
   rw [if_neg he]
   exact ⟨t,Qbl.nothing hb hr hrel hk hl⟩
  have hkp : ∀ l : Gag,∀ id,id < h.length→blk? (h++l) id = blk? h id:=fun l id hid=>Gbf hid
  rw [Qac,show B60 = .seq (Gau 0 B60) (.seq (Gau 1 B60) (.seq (Gau 2 B60) (.seq (Gau 3 B60) (.seq (Gau 4 B60) (.seq (Gau 5 B60) (tlC 6 B60)))))) from rfl]
  generalize hT : tlC 6 B60 = tl
  simp only [Gau,tlC,Gd5,B60]
  obtain ⟨byp,res,rst,cz,sy⟩:=m
  simp only [MD.val] at *
  have herr : ∀ e,Gbj n planes o = e→e ≠ 0→Gx7 n planes o (Gkc A.ask ⟨byp,res,rst,cz,sy⟩ b n planes o s).1.2 = e:=by
   intro e he h0
   unfold Gx7; rw [he,if_pos h0]
  by_cases h1 : planes < 1
  ·have he:=Gdu (n:=n) (o:=o) (.inl h1 : planes < 1∨60 < planes∨n < 0∨3 * planes - 3 < n)
   simp [Gaa,Gah,hsz,hw0',Gbe,Ga0,Gb8,Gc4,Ggu,h1,Gk3]
   exact ⟨(herr 2 he (by decide)).symm,hnone (by rw [he]; decide) _ (hkp _) (by simp)⟩
  by_cases h2 : 60 < planes
  ·have he:=Gdu (n:=n) (o:=o) (.inr (.inl h2) : planes < 1∨60 < planes∨n < 0∨3 * planes - 3 < n)
   simp [Gaa,Gah,hsz,hw0',Gbe,Ga0,Gb8,Gc4,Ggu,h1,h2,Gk3]
   exact ⟨(herr 2 he (by decide)).symm,hnone (by rw [he]; decide) _ (hkp _) (by simp)⟩
  by_cases h3 : n < 0
  ·have he:=Gdu (n:=n) (o:=o) (.inr (.inr (.inl h3)) : planes < 1∨60 < planes∨n < 0∨3 * planes - 3 < n)
   simp [Gaa,Gah,hsz,hw0',Gbe,Ga0,Gb8,Gc4,Ggu,h1,h2,h3,Gk3]
   exact ⟨(herr 2 he (by decide)).symm,hnone (by rw [he]; decide) _ (hkp _) (by simp)⟩
  have hm1 : IntKind.i64.wrap (3 * planes) = 3 * planes:=Gan (by omega) (by omega)
  have hm2 : IntKind.i64.wrap (3 * planes - 3) = 3 * planes - 3:=Gan (by omega) (by omega)
  by_cases h4 : 3 * planes - 3 < n
  ·have he:=Gdu (n:=n) (o:=o) (.inr (.inr (.inr h4)) : planes < 1∨60 < planes∨n < 0∨3 * planes - 3 < n)
   simp [Gaa,Gah,hsz,hw0',Gbe,Ga0,Gb8,Gc4,Ggu,h1,h2,h3,hm1,hm2,h4,Gk3]
   exact ⟨(herr 2 he (by decide)).symm,hnone (by rw [he]; decide) _ (hkp _) (by simp)⟩
  by_cases h5 : o < 0
  ·have he : Gbj n planes o = 3:=by unfold Gbj; rw [if_neg (by omega),if_pos (.inl h5)]
   simp [Gaa,Gah,hsz,hw0',Gbe,Ga0,Gb8,Gc4,Ggu,h1,h2,h3,hm1,hm2,h4,h5,Gk3]
   exact ⟨(herr 3 he (by decide)).symm,hnone (by rw [he]; decide) _ (hkp _) (by simp)⟩
  by_cases h6 : 3 < o
  ·have he : Gbj n planes o = 3:=by unfold Gbj; rw [if_neg (by omega),if_pos (.inr h6)]
   simp [Gaa,Gah,hsz,hw0',Gbe,Ga0,Gb8,Gc4,Ggu,h1,h2,h3,hm1,hm2,h4,h5,h6,Gk3]
   exact ⟨(herr 3 he (by decide)).symm,hnone (by rw [he]; decide) _ (hkp _) (by simp)⟩
  simp [Gaa,Gah,hsz,hw0',Gbe,Ga0,Gb8,Gc4,Ggu,h1,h2,h3,hm1,hm2,h4,h5,h6,Gk3]
  have he : Gbj n planes o = 0:=by unfold Gbj; rw [if_neg (by omega),if_neg (by omega)]
  unfold Gx7 Gkc
  rw [he]
  simp only [ne_eq,not_true_eq_false,if_false,if_true]
  obtain ⟨n,rfl⟩:=Int.eq_ofNat_of_zero_le (show 0≤n by omega)
  obtain ⟨planes,rfl⟩:=Int.eq_ofNat_of_zero_le (show 0≤planes by omega)
  obtain ⟨o,rfl⟩:=Int.eq_ofNat_of_zero_le (show 0≤o by omega)
  simp only [Int.toNat_natCast]
  generalize hres : (Gn2 ⟨byp,res,rst,cz,sy⟩ b n planes o).run A.ask s = dr
  have hp':=fun h R=>Grq (h:=h) (R:=R) (n:=n) (by omega)
  have hrw:=fun h R=>Gxi (h:=h) (R:=R) (n:=n) (by omega) ⟨byp,res,rst,cz,sy⟩
  have hpl:=Gdg (n:=n) (planes:=planes) (by omega) (by omega)
  have e1 : IntKind.i64.wrap ((planes : Int) - 1) = ((planes - 1 : Nat) : Int):=by rw [Gan (by omega) (by omega)]; omega
  have e2 : IntKind.i64.wrap (((planes - 1 : Nat) : Int) - (Gas n : Int)) = ((planes - 1 - Gas n : Nat) : Int):=by rw [Gan (by omega) (by omega)]; omega
  rw [← hT,show tlC 6 B60 = .seq (Gau 6 B60) (.seq (Gau 7 B60) (.seq (Gau 8 B60) (tlC 9 B60))) from rfl]
  generalize hT2 : tlC 9 B60 = tl2
  simp only [Gau,tlC,Gd5,B60]
  simp only [MD.val] at hrw
  have hlp:=blk?_lt hb.blkp
  have hlc:=blk?_lt hb.blkc
  have hblk:=hb.blkp
  simp [hp',hrw,e1,e2,Gbe,Ga0,Gb8,Gc4,Gou,Gnj,book,Gd0,Gb5,Ghw,Gbq,Gcg]
  generalize hP : Gc9 ⟨byp,res,rst,cz,sy⟩ n planes o = P
  have hPs : P.s = planes - 1 - Gas n:=by rw [← hP]; rfl
  have hPo : P.o = o:=by rw [← hP]; rfl
  have hPc : P.cz = cz:=by rw [← hP]; rfl
  have hPr : P.rw = Gaw ⟨byp,res,rst,cz,sy⟩ n:=by rw [← hP]; rfl
  have hrs : Gn2 ⟨byp,res,rst,cz,sy⟩ b n planes o = if kindOf n = 0 then (Ggx P b (scan b.w b.h)).bind fun b=>.ret (b,true) else if kindOf n = 1 then (Ggy P b (scan b.w b.h)).bind fun b=>.ret (b,true) else Gds P b sy:=by
   unfold Gn2; rw [hP]
  rw [hrs] at hres
  rw [← hPr,← hPs,← hPo,← hPc]
  generalize hH : h++[some (⟨false,[.bool byp,.bool res,.bool rst,.bool P.cz,.bool sy]⟩ : Blk),some ⟨false,[.func (.func g) fa fb]⟩,
   some ⟨false,[ptr p,.int .i64 b.w,.int .i64 b.h,.int .i64 P.s,.int .i64 P.o,.bool P.cz,.bool P.rw,.func (.func 109) #[] #[ptr (h.length + 3),ptr (h.length + 1)]]⟩,some ⟨false,[ptr (h.length + 2)]⟩] = H
  have hlow : ∀ id,id < h.length→blk? H id = blk? h id:=fun id hid=>by rw [← hH]; exact Gbf hid
  have hHl : H.length = h.length + 4:=by rw [← hH]; simp
  have hm0 : blk? H h.length = some ⟨false,[.bool byp,.bool res,.bool rst,.bool P.cz,.bool sy]⟩:=by rw [← hH,Gbe]; rfl
  have hlt:=fun id (ho : A.own t id)=>A.lt hrel id ho
  have he : PD A H (h.length + 2) p (h.length + 3) (h.length + 1) P t b s:=by
   refine ⟨⟨by rw [← hH,Ga0]; rfl,⟨by rw [hlow _ hlp]; exact hb.blkp,by rw [hlow _ hlc]; exact hb.blkc,hb.ok⟩,by simp; omega,⟨by rw [hPs]; omega,by rw [hPo]; omega⟩,hr⟩,by rw [← hH,Ga0]; rfl,by rw [← hH,Ga0]; rfl,A.stable hrel (by omega) (fun id h1 _=>hlow id h1),?_,?_⟩
   ·have:=hb.ne; omega
   ·exact ⟨fun e=>by have:=hlt _ e; omega,hp,fun e=>by have:=hlt _ e; omega,fun e=>by have:=hlt _ e; omega⟩
  have hpb:=he.pbk
  have fin : ∀ (b' : BS) (s' : A.S) (t' : A.T) (H' : Gag),PD A H' (h.length + 2) p (h.length + 3) (h.length + 1) P t' b' s'→Stq H H' c (A.own t) (A.own t')→∃ t',Qbl A h H' p t t' b' s':=by
   intro b' s' t' H' pe st
   exact ⟨t',pe.dr.cb,pe.good,pe.rel,(Stq.low hlow (by omega) _ _).trans st⟩
  rw [← hT2]
  simp only [tlC,B60]
  have hk : kindOf n = 0∨kindOf n = 1∨kindOf n = 2:=by unfold kindOf; split <;> omega
  rcases hk with hk | hk | hk
  ·obtain ⟨t',H',e,pe,st⟩:=Gl1 he hl
   rw [if_pos hk] at hres
   simp only [Tr.run_bind,Tr.run_ret] at hres
   subst hres
   simp [hk,hpb,e,Gk3]
   exact fin _ _ _ _ pe st
  ·obtain ⟨t',H',e,pe,st⟩:=Gqp he hl
   rw [if_neg (by omega),if_pos hk] at hres
   simp only [Tr.run_bind,Tr.run_ret] at hres
   subst hres
   simp [hk,hpb,e,Gk3]
   exact fin _ _ _ _ pe st
  ·obtain ⟨t',H',e,pe,st⟩:=Gzl he hl sy
   rw [if_neg (by omega),if_neg (by omega)] at hres
   subst hres
   cases hok : ((Gds P b sy).run A.ask s).1.2
   ·rw [hok] at e
    simp [hk,hpb,hm0,e,Gk3]
    exact fin _ _ _ _ pe st
   ·rw [hok] at e
    simp [hk,hpb,hm0,e,Gk3]
    exact fin _ _ _ _ pe st
 obtain ⟨v,h',e,rfl,t',rs⟩:=Gck key
 exact ⟨t',h',e,rs⟩
end
def Gb2 (m : MD) (ls : List (List (Int × Nat))) : List Nat→Nat→AE→List Nat→List Nat→List Nat × List Nat
 | [],_,_,P,D=>(P,D)
 | c :: cs,n,a,P,D =>
  let r:=Gap m n ((ls.drop n).take c) ⟨a,if Gaw m n = true then some [] else none⟩
  Gb2 m ls cs (n + c) r.1.after (P++(r.2.take (c - 1)).map (fun z=>min (D.length + z) (D++r.1.bytes).length)++[(D++r.1.bytes).length]) (D++r.1.bytes)
def Gq1 (m : MD) : Nat→List Nat→Prop
 | _,[]=>True
 | n,c :: cs=>(Gaw m n = false→∀ j,j < c→Gaw m (n + j) = false)∧Gq1 m (n + c) cs
theorem Gml : ∀ (l : List (List (Int × Nat))) (c : Nat),Gl3 l = Gl3 (l.take c) + Gl3 (l.drop c)
 | [],c=>by simp [Gl3]
 | x :: l,0=>by simp [Gl3]
 | x :: l,c + 1=>by rw [List.take_succ_cons,List.drop_succ_cons,Gl3,Gl3,Gml l c]; omega
theorem Ge8 (m : MD) : ∀ (ls : List (List (Int × Nat))) (n : Nat) (st : S2),(Gap m n ls st).2.length = ls.length
 | [],_,_=>rfl
 | l :: r,n,st=>by simp [Gap,Ge8 m r]
theorem sub_nI {h : Gag} {zv : Value} {zs : List Nat} {c : Nat} (ho : Ga7 h 1 zv zs.length (nI zs)) (hc : c≤zs.length) :
  ∃ z2,Gc8 1 zv none (some (.int .i64 (c : Nat))) = some z2∧Sl h 1 z2 (zs.take c).length (nI (zs.take c))∧(∀ id,sid z2 = some id→sid zv = some id)∧∃ za zc,z2 = .slice za (zs.take c).length zc:=by
 have hl : (zs.take c).length = c:=by simp; omega
 rcases ho.2 with ⟨rfl,h0⟩ | ⟨id,rfl,hb⟩
 ·have hz : zs = []:=List.eq_nil_of_length_eq_zero h0
  subst hz
  have : c = 0:=by simpa using hc
  subst this
  exact ⟨.slice none 0 0,by simp [Gc8,Gl5,bnd],(Ga7.nil h 1).sl,fun id hid=>hid,none,0,rfl⟩
 ·refine ⟨.slice (some ⟨id,0,none⟩) c 1,?_,?_,fun j hj=>hj,?_⟩
  ·have : (c : Int)≤(zs.length : Int):=by omega
   simp [Gc8,Gl5,bnd,this]
  ·rw [hl]
   refine ⟨by rw [Gul,hl,Nat.mul_one],.inr ⟨id,0,rfl,.inr ⟨_,hb,by simp only [Gul]; omega,?_⟩⟩⟩
   simp only [List.drop_zero,Nat.mul_one,nI,List.map_take]
  ·rw [hl]; exact ⟨_,_,rfl⟩
def inB : RCode→RCode
 | .block _ c=>c
 | c=>c
structure OI (hB h : Gag) (e X : Nat) (pl gv : Value) (gs : List Nat) (a : AE) (pv dv : Value) (P D : List Nat) (N : Nat) : Prop where
 ea : ∃ pb o out low,EA h e pb o out low a∧out.length≤N∧∀ id,Gf6 e pb o id→hB.length≤id∧id ≠ X∧sid pv ≠ some id∧sid dv ≠ some id∧sid gv ≠ some id
 h19 : a.p.length = 19
 bx : blk? h X = some ⟨false,[pl,pv,dv]⟩
 op : Ga7 h 1 pv P.length (nI P)
 od : Ga7 h 1 dv D.length (nU D)
 gs : Sl h 1 gv gs.length (nI gs)
 gB : ∀ id,sid gv = some id→id ≠ X∧id < h.length
 xB : hB.length≤X
 pB : ∀ id,sid pv = some id→hB.length≤id∧id ≠ X∧sid dv ≠ some id∧sid gv ≠ some id
 dB : ∀ id,sid dv = some id→hB.length≤id∧id ≠ X∧sid gv ≠ some id
 low : ∀ id,id < hB.length→blk? h id = blk? hB id
 len : hB.length≤h.length
section
variable {R : RP} {k : List Ga1} {e M X0 X : Nat} {sv gv pl : Value} {m : MD} {gs : List Nat}
theorem Gxg {hB : Gag} {vs : List Value} {ls : List (List (Int × Nat))} {PF DF : List Nat} (hp : Pss hB sv vs ls) (hm : blk? hB M = some ⟨false,[.bool m.byp,.bool m.res,.bool m.rst,.bool m.cz,.bool m.sy]⟩) (hls : ls.length≤178) (hgs : gs.length≤178)
  (hsym : ∀ i (h1 : i < ls.length),∀ s ∈ ls[i],s.2 < 2∧(Gaw m i = false→0≤s.1∧s.1 < 19))
  (hk : ∀ (h : Gag) (a : AE) (pv dv : Value) (N : Nat) (K0 K1 K2 K3 K4 K5 K6 K7 K8 Kb Kc Kd Ke Kg Kh Ki Kj Kk Kl Km Kn Ko Kp Kq Kr Ks Kt Ku Kv Kw Kx Ky Kz J0 J1 J2 J3 J4 J5 J6 J7 J8 J9 Ja Jb Jc Jd Je Jf Jg Jh Ji Jj Jk Jl Jm Jn Jo Jp Jq Jr Js Jt Ju Jv Jw Jx Jy Jz Y0 Y1 Y2 Y3 Y4 Y5 Y6 Y7 Y8 Y9 Ya Yb Yc Yd Ye Yf Yg Yh Yi Yj Yk Yl Ym Yn Yo Yp Yq Yr Ys Yt Yu Yv Yw Yx Yy Yz Z0 Z1 Z2 Z3 Z4 Z5 Z6 Z7 Z8 Z9 Za Zb Zc Zd Ze Zf Zg Zh Zi Zj Zk Zl Zm Zn Zo Zp Zq Zr Zs Zt Zu Zv Zw Zx Zy Zz K0q K1q K2q K3q : Value),OI hB h e X pl gv gs a pv dv PF DF N→Ok tab R17 k #[K0,K1,K2,K3,K4,K5,K6,K7,K8,ptr M,ptr X0,Kb,Kc,Kd,Ke,ptr X,Kg,Kh,Ki,Kj,Kk,Kl,Km,Kn,Ko,Kp,Kq,Kr,Ks,Kt,Ku,Kv,Kw,Kx,Ky,Kz,J0,J1,J2,J3,J4,J5,J6,J7,J8,J9,Ja,Jb,Jc,Jd,Je,Jf,Jg,Jh,Ji,Jj,Jk,Jl,Jm,Jn,Jo,Jp,Jq,Jr,Js,Jt,Ju,Jv,Jw,Jx,Jy,Jz,Y0,Y1,Y2,Y3,Y4,Y5,Y6,Y7,Y8,Y9,Ya,Yb,Yc,Yd,Ye,Yf,Yg,Yh,Yi,Yj,Yk,Yl,Ym,Yn,Yo,Yp,Yq,Yr,Ys,Yt,Yu,Yv,Yw,Yx,Yy,Yz,Z0,Z1,Z2,Z3,Z4,Z5,Z6,Z7,Z8,Z9,Za,Zb,Zc,Zd,Ze,Zf,Zg,Zh,Zi,Zj,Zk,Zl,Zm,Zn,Zo,Zp,Zq,Zr,Zs,Zt,Zu,Zv,Zw,Zx,Zy,Zz,K0q,K1q,K2q,K3q] h R) :
  ∀ (d gi n : Nat) (h : Gag) (a : AE) (pv dv : Value) (P D : List Nat) (N : Nat) (K0 K1 K2 K3 K4 K5 K6 K7 K8 Kb Kd Kh Ki Kj Kk Kl Km Kn Ko Kp Kq Kr Ks Kt Ku Kv Kw Kx Ky Kz J0 J1 J2 J3 J4 J5 J6 J7 J8 J9 Ja Jb Jc Jd Je Jf Jg Jk Jl Jm Jn Jo Jp Jq Jr Js Jt Ju Jv Jw Jx Jy Jz Y0 Y1 Y2 Y3 Y4 Y5 Y6 Y7 Y8 Y9 Ya Yb Yc Yd Ye Yf Yg Yh Yi Yj Yk Yl Ym Yn Yo Yp Yq Yr Ys Yt Yu Yv Yw Yx Yy Yz Z0 Z1 Z2 Z3 Z4 Z5 Z6 Z7 Z8 Z9 Za Zb Zc Zd Ze Zf Zg Zh Zi Zj Zk Zl Zm Zn Zo Zp Zq Zr Zs Zt Zu Zv Zw Zx Zy Zz K0q K1q K2q K3q : Value),gi + d = gs.length→OI hB h e X pl gv gs a pv dv P D N→n + Gi4 (gs.drop gi) = ls.length→(∀ c ∈ gs,1≤c)→Gq1 m n (gs.drop gi)→N + Gl3 (ls.drop n)≤900000→P.length = n→D.length + d * 1000000≤500000000 →
   Gb2 m ls (gs.drop gi) n a P D = (PF,DF) →
   Ok tab R17 (.inLoop Gsg :: .inBlock 0 :: k) #[K0,K1,K2,K3,K4,K5,K6,K7,K8,ptr M,ptr X0,Kb,sv,Kd,ptr e,ptr X,.int .i64 (n : Nat),Kh,Ki,Kj,Kk,Kl,Km,Kn,Ko,Kp,Kq,Kr,Ks,Kt,Ku,Kv,Kw,Kx,Ky,Kz,J0,J1,J2,J3,J4,J5,J6,J7,J8,J9,Ja,Jb,Jc,Jd,Je,Jf,Jg,gv,.int .i64 (gs.length : Nat),.int .i64 (gi : Nat),Jk,Jl,Jm,Jn,Jo,Jp,Jq,Jr,Js,Jt,Ju,Jv,Jw,Jx,Jy,Jz,Y0,Y1,Y2,Y3,Y4,Y5,Y6,Y7,Y8,Y9,Ya,Yb,Yc,Yd,Ye,Yf,Yg,Yh,Yi,Yj,Yk,Yl,Ym,Yn,Yo,Yp,Yq,Yr,Ys,Yt,Yu,Yv,Yw,Yx,Yy,Yz,Z0,Z1,Z2,Z3,Z4,Z5,Z6,Z7,Z8,Z9,Za,Zb,Zc,Zd,Ze,Zf,Zg,Zh,Zi,Zj,Zk,Zl,Zm,Zn,Zo,Zp,Zq,Zr,Zs,Zt,Zu,Zv,Zw,Zx,Zy,Zz,K0q,K1q,K2q,K3q] h R:=by
 intro d
 induction d with
 | zero =>
  intro gi n h a pv dv P D N K0 K1 K2 K3 K4 K5 K6 K7 K8 Kb Kd Kh Ki Kj Kk Kl Km Kn Ko Kp Kq Kr Ks Kt Ku Kv Kw Kx Ky Kz J0 J1 J2 J3 J4 J5 J6 J7 J8 J9 Ja Jb Jc Jd Je Jf Jg Jk Jl Jm Jn Jo Jp Jq Jr Js Jt Ju Jv Jw Jx Jy Jz Y0 Y1 Y2 Y3 Y4 Y5 Y6 Y7 Y8 Y9 Ya Yb Yc Yd Ye Yf Yg Yh Yi Yj Yk Yl Ym Yn Yo Yp Yq Yr Ys Yt Yu Yv Yw Yx Yy Yz Z0 Z1 Z2 Z3 Z4 Z5 Z6 Z7 Z8 Z9 Za Zb Zc Zd Ze Zf Zg Zh Zi Zj Zk Zl Zm Zn Zo Zp Zq Zr Zs Zt Zu Zv Zw Zx Zy Zz K0q K1q K2q K3q hgd I hn hc1 hso hN hP hD hE
  obtain rfl : gi = gs.length:=by omega
  rw [List.drop_length] at hE
  simp only [Gb2,Prod.mk.injEq] at hE
  obtain ⟨rfl,rfl⟩:=hE
  rw [Gad,G93,Gqv,Gec]
  simp
  exact hk h a pv dv N _ _ _ _ _ _ _ _ _ _ _ _ _ _ _ _ _ _ _ _ _ _ _ _ _ _ _ _ _ _ _ _ _ _ _ _ _ _ _ _ _ _ _ _ _ _ _ _ _ _ _ _ _ _ _ _ _ _ _ _ _ _ _ _ _ _ _ _ _ _ _ _ _ _ _ _ _ _ _ _ _ _ _ _ _ _ _ _ _ _ _ _ _ _ _ _ _ _ _ _ _ _ _ _ _ _ _ _ _ _ _ _ _ _ _ _ _ _ _ _ _ _ _ _ _ _ _ _ _ _ _ _ _ _ _ _ _ _ _ _ _ _ _ _ _ I
 | succ d ih =>
  intro gi n h a pv dv P D N K0 K1 K2 K3 K4 K5 K6 K7 K8 Kb Kd Kh Ki Kj Kk Kl Km Kn Ko Kp Kq Kr Ks Kt Ku Kv Kw Kx Ky Kz J0 J1 J2 J3 J4 J5 J6 J7 J8 J9 Ja Jb Jc Jd Je Jf Jg Jk Jl Jm Jn Jo Jp Jq Jr Js Jt Ju Jv Jw Jx Jy Jz Y0 Y1 Y2 Y3 Y4 Y5 Y6 Y7 Y8 Y9 Ya Yb Yc Yd Ye Yf Yg Yh Yi Yj Yk Yl Ym Yn Yo Yp Yq Yr Ys Yt Yu Yv Yw Yx Yy Yz Z0 Z1 Z2 Z3 Z4 Z5 Z6 Z7 Z8 Z9 Za Zb Zc Zd Ze Zf Zg Zh Zi Zj Zk Zl Zm Zn Zo Zp Zq Zr Zs Zt Zu Zv Zw Zx Zy Zz K0q K1q K2q K3q hgd I hn hc1 hso hN hP hD hE
  have hgi : gi < gs.length:=by omega
  have hlt : (gi : Int) < (gs.length : Int):=by omega
  have hdrop : gs.drop gi = gs[gi] :: gs.drop (gi + 1):=List.drop_eq_getElem_cons hgi
  have hcpos:=hc1 gs[gi] (List.getElem_mem hgi)
  rw [hdrop] at hn hso hE
  simp only [Gi4] at hn
  obtain ⟨hso1,hso2⟩:=hso
  have hgd0 : gs.getD gi 0 = gs[gi]:=by rw [List.getD_eq_getElem?_getD,List.getElem?_eq_getElem hgi]; rfl
  obtain ⟨gid,goff,gb,hgv,hgb,hgc⟩:=I.gs.get hgi
  have hgc':=hgc 0 (by omega)
  rw [Nat.mul_one,Nat.add_zero,Nat.add_zero,Gpx hgi,hgd0] at hgc'
  generalize hcc : gs[gi] = c at *
  simp only [Gb2] at hE
  obtain ⟨pb,o,out,low,hA,hon,hdis⟩:=I.ea
  have hsplit:=Gml (ls.drop n) c
  rw [List.drop_drop] at hsplit
  have hmB:=blk?_lt hm
  have hmh : blk? h M = some ⟨false,[.bool m.byp,.bool m.res,.bool m.rst,.bool m.cz,.bool m.sy]⟩:=by rw [I.low M hmB]; exact hm
  have hXlt:=blk?_lt I.bx
  have lenB:=I.len
  have stepS : ∃ h2 v own,Snk h2 e v own ⟨a,if Gaw m n = true then some [] else none⟩ N∧(∀ id,id < h.length→blk? h2 id = blk? h id)∧h.length≤h2.length∧(∀ id,own id→Gf6 e pb o id∨h.length≤id) ∧
    ((Gaw m n = false→v = ifE e∧h2 = h)∧(Gaw m n = true→v = ifR h.length∧∀ R,Ret tab 40 [] h R = R (ptr h.length) h2)):=by
   cases hrw : Gaw m n with
   | false=>exact ⟨h,ifE e,Gf6 e pb o,.enc hA I.h19 hon,fun _ _=>rfl,Nat.le_refl _,fun id hid=>.inl hid,fun _=>⟨rfl,rfl⟩,fun x=>by simp at x⟩
   | true =>
    obtain ⟨h2,e1,J,l1,k1⟩:=new15 h
    refine ⟨h2,ifR h.length,_,.raw (hA.keep fun id hid=>k1 id (hA.own_lt hid)) I.h19 hon J (by simp) (fun id x y=>?_),k1,by omega,fun id hid=>?_,fun x=>by simp at x,fun _=>⟨rfl,e1⟩⟩
    ·have:=hA.own_lt x
     rcases y with y | y
     ·omega
     ·simp [sid] at y
    ·rcases hid with hid | hid
     ·exact .inl hid
     ·rcases hid with hid | hid
      ·right; omega
      ·simp [sid] at hid
  obtain ⟨h2,v,own,hK,k2,l2,own2,hv⟩:=stepS
  have ownB : ∀ id,own id→hB.length≤id:=fun id hid=>by
   rcases own2 id hid with hx | hx
   ·exact (hdis id hx).1
   ·omega
  have hp2 : Pss h2 sv vs ls:=hp.keep (by omega) (fun id hid=>by rw [k2 id (by omega),I.low id hid])
  have ltB : ∀ {w : Value} {id : Nat} {s0 n0 : Nat} {cs0 : List Value},below hB.length w = true→Sl hB s0 w n0 cs0→sid w = some id→id < hB.length:=by
   intro w id s0 n0 cs0 hb hs hid
   obtain ⟨wa,wc,rfl⟩:=hs.shape
   cases wa with
   | none=>simp [sid] at hid
   | some ad=>simp [sid] at hid hb; omega
  have hm2 : blk? h2 M = some ⟨false,[.bool m.byp,.bool m.res,.bool m.rst,.bool m.cz,.bool m.sy]⟩:=by rw [k2 M (by omega)]; exact hmh
  have hrl:=Ge8 m ((ls.drop n).take c) n ⟨a,if Gaw m n = true then some [] else none⟩
  have hcl : ((ls.drop n).take c).length = c:=by rw [List.length_take,List.length_drop]; omega
  rw [hcl] at hrl
  generalize hr : Gap m n ((ls.drop n).take c) ⟨a,if Gaw m n = true then some [] else none⟩ = r at *
  obtain ⟨st3,zs3⟩:=r
  simp only at hE hrl
  have behind : ∀ (h3 : Gag) (own3 : Nat→Prop) (zv : Value) (K0 K1 K2 K3 K4 K5 K6 K7 K8 Kb Kd Kh Kl Km Kn Ko Kp Kq Kr Ks Kt Ku Kv Kw Kx Ky Kz J0 J1 J2 J3 J4 J5 J6 J7 J8 J9 Ja Jb Jc Jd Je Jf Jg Jk Jl Jm Jn Jo Jp Jq Jr Js Jt Ju Jv Jw Jx Jy Jz Y0 Y1 Y2 Y3 Y4 Y5 Y6 Y7 Y8 Y9 Ya Yb Yc Yd Ye Yf Yg Yh Yi Yj Yk Yl Ym Yn Yo Yp Yq Yr Ys Yt Yu Yv Yw Yx Yy Yz Z0 Z1 Z2 Z3 Z4 Z5 Z6 Z7 Z8 Z9 Za Zb Zc Zd Ze Zf Zg Zh Zi Zj Zk Zl Zm Zn Zo Zp Zq Zr Zs Zt Zu Zv Zw Zx Zy Zz K0q K1q K2q K3q : Value),Snk h3 e v own3 st3 (N + Gl3 ((ls.drop n).take c)) →
    Ga7 h3 1 zv zs3.length (nI zs3)→(∀ z ∈ zs3,z≤900004)→(∀ id,own3 id→sid zv ≠ some id)→SF h2 h3 own (Qb6 own3 zv) →
    Ok tab R17 (.code (tlC 5 (inB (Gau 1 Gec))) :: .inBlock 1 :: .code (tlC 2 Gec) :: .inLoop Gsg :: .inBlock 0 :: k) #[K0,K1,K2,K3,K4,K5,K6,K7,K8,ptr M,ptr X0,Kb,sv,Kd,ptr e,ptr X,.int .i64 ((n + c : Nat) : Int),Kh,.int .i64 (c : Nat),v,zv,Kl,Km,Kn,Ko,Kp,Kq,Kr,Ks,Kt,Ku,Kv,Kw,Kx,Ky,Kz,J0,J1,J2,J3,J4,J5,J6,J7,J8,J9,Ja,Jb,Jc,Jd,Je,Jf,Jg,gv,.int .i64 (gs.length : Nat),.int .i64 (gi : Nat),Jk,Jl,Jm,Jn,Jo,Jp,Jq,Jr,Js,Jt,Ju,Jv,Jw,Jx,Jy,Jz,Y0,Y1,Y2,Y3,Y4,Y5,Y6,Y7,Y8,Y9,Ya,Yb,Yc,Yd,Ye,Yf,Yg,Yh,Yi,Yj,Yk,Yl,Ym,Yn,Yo,Yp,Yq,Yr,Ys,Yt,Yu,Yv,Yw,Yx,Yy,Yz,Z0,Z1,Z2,Z3,Z4,Z5,Z6,Z7,Z8,Z9,Za,Zb,Zc,Zd,Ze,Zf,Zg,Zh,Zi,Zj,Zk,Zl,Zm,Zn,Zo,Zp,Zq,Zr,Zs,Zt,Zu,Zv,Zw,Zx,Zy,Zz,K0q,K1q,K2q,K3q] h3 R:=by
   intro h3 own3 zv K0 K1 K2 K3 K4 K5 K6 K7 K8 Kb Kd Kh Kl Km Kn Ko Kp Kq Kr Ks Kt Ku Kv Kw Kx Ky Kz J0 J1 J2 J3 J4 J5 J6 J7 J8 J9 Ja Jb Jc Jd Je Jf Jg Jk Jl Jm Jn Jo Jp Jq Jr Js Jt Ju Jv Jw Jx Jy Jz Y0 Y1 Y2 Y3 Y4 Y5 Y6 Y7 Y8 Y9 Ya Yb Yc Yd Ye Yf Yg Yh Yi Yj Yk Yl Ym Yn Yo Yp Yq Yr Ys Yt Yu Yv Yw Yx Yy Yz Z0 Z1 Z2 Z3 Z4 Z5 Z6 Z7 Z8 Z9 Za Zb Zc Zd Ze Zf Zg Zh Zi Zj Zk Zl Zm Zn Zo Zp Zq Zr Zs Zt Zu Zv Zw Zx Zy Zz K0q K1q K2q K3q hK3 hz3 hzb hd3 F3
   obtain ⟨h4,s,pb4,o4,out4,low4,eE,hA4,hout4,h194,F4,hs4,hsid4⟩:=Qad hK3 (by omega)
   have hbl:=Gz3 hK3
   have len3:=F3.len
   have len4:=F4.len
   have other : ∀ id,id < h.length→¬ Gf6 e pb o id→blk? h4 id = blk? h id∧¬ own3 id∧sid zv ≠ some id∧¬ Gf6 e pb4 o4 id:=by
    intro id hid hno
    have n1 : ¬ own id:=fun x=>by
     rcases own2 id x with hx | hx
     ·exact hno hx
     ·omega
    have n2 : ¬ Qb6 own3 zv id:=fun x=>by
     rcases F3.fresh id x with hx | hx
     ·exact n1 hx
     ·omega
    have n3 : ¬ own3 id:=fun x=>n2 (.inl x)
    refine ⟨by rw [F4.same id (by omega) n3,F3.same id (by omega) n1,k2 id hid],n3,fun x=>n2 (.inr x),fun x=>?_⟩
    rcases F4.fresh id x with hx | hx
    ·exact n3 hx
    ·omega
   have oX:=other X hXlt (fun x=>(hdis X x).2.1 rfl)
   have oP : ∀ id,sid pv = some id→_:=fun id hid=>other id (I.op.lt hid) (fun x=>(hdis id x).2.2.1 hid)
   have oD : ∀ id,sid dv = some id→_:=fun id hid=>other id (I.od.lt hid) (fun x=>(hdis id x).2.2.2.1 hid)
   have oG : ∀ id,sid gv = some id→_:=fun id hid=>other id (I.gB id hid).2 (fun x=>(hdis id x).2.2.2.2 hid)
   have oL : ∀ id,id < hB.length→blk? h4 id = blk? hB id:=fun id hid=>by
    rw [(other id (by omega) (fun x=>by have:=(hdis id x).1; omega)).1,I.low id hid]
   have zB : ∀ id,sid zv = some id→hB.length≤id∧id ≠ X∧sid pv ≠ some id∧sid dv ≠ some id∧sid gv ≠ some id:=fun id hid=>by
    refine ⟨?_,fun x=>oX.2.2.1 (by rw [← x]; exact hid),fun x=>(oP id x).2.2.1 hid,fun x=>(oD id x).2.2.1 hid,fun x=>(oG id x).2.2.1 hid⟩
    rcases F3.fresh id (.inr hid) with hx | hx
    ·exact ownB id hx
    ·omega
   have op4 : Ga7 h4 1 pv P.length (nI P):=I.op.of_blk fun id hid hb=>by rw [(oP id hid).1]; exact hb
   have od4 : Ga7 h4 1 dv D.length (nU D):=I.od.of_blk fun id hid hb=>by rw [(oD id hid).1]; exact hb
   have hz4 : Ga7 h4 1 zv zs3.length (nI zs3):=hz3.of_blk fun id hid hb=>by rw [F4.same id (blk?_lt hb) (fun x=>hd3 id x hid)]; exact hb
   have gs4 : Sl h4 1 gv gs.length (nI gs):=I.gs.of_sid fun id b hid hb=>by rw [(oG id hid).1]; exact hb
   have bX4 : blk? h4 X = some ⟨false,[pl,pv,dv]⟩:=by rw [oX.1]; exact I.bx
   have hXl4:=blk?_lt bX4
   have nd : ∀ id,Gf6 e pb4 o4 id→id < h4.length∧hB.length≤id∧id ≠ X∧sid pv ≠ some id∧sid dv ≠ some id∧sid gv ≠ some id:=fun id hid=>by
    refine ⟨hA4.own_lt hid,?_,fun x=>oX.2.2.2 (by rw [← x]; exact hid),fun x=>(oP id x).2.2.2 hid,fun x=>(oD id x).2.2.2 hid,fun x=>(oG id x).2.2.2 hid⟩
    rcases F4.fresh id hid with hx | hx
    ·rcases F3.fresh id (.inl hx) with hy | hy
     ·exact ownB id hy
     ·omega
    ·omega
   obtain ⟨tv,h5,eA5,od5,l5,k5,g5⟩:=Gtj (bytes:=1) od4 hs4 (by unfold Gaq; omega) (by omega)
   have happ : nU D++nU st3.bytes = nU (D++st3.bytes):=by simp [nU]
   have hDl : D.length + st3.bytes.length = (D++st3.bytes).length:=by simp
   rw [happ,hDl] at od5
   have hdX : sid dv ≠ some X:=fun x=>(I.dB X x).2.1 rfl
   have bX5 : blk? h5 X = some ⟨false,[pl,pv,dv]⟩:=by rw [k5 X hXl4 hdX]; exact bX4
   have hXl5:=blk?_lt bX5
   generalize hh6 : h5.set X (some ⟨false,[pl,pv,tv]⟩) = h6
   have l6 : h6.length = h5.length:=by rw [← hh6]; simp
   have bX6 : blk? h6 X = some ⟨false,[pl,pv,tv]⟩:=by rw [← hh6]; exact blk?_set_eq hXl5
   have k6 : ∀ id,id ≠ X→blk? h6 id = blk? h5 id:=fun id hid=>by rw [← hh6]; exact blk?_set_ne (Ne.symm hid)
   have k46 : ∀ id,id < h4.length→id ≠ X→sid dv ≠ some id→blk? h6 id = blk? h4 id:=fun id h1 h2 h3=>by rw [k6 id h2,k5 id h1 h3]
   have hz6 : Ga7 h6 1 zv zs3.length (nI zs3):=hz4.of_blk fun id hid hb=>by rw [k46 id (blk?_lt hb) (zB id hid).2.1 (zB id hid).2.2.2.1]; exact hb
   have op6 : Ga7 h6 1 pv P.length (nI P):=op4.of_blk fun id hid hb=>by rw [k46 id (blk?_lt hb) (I.pB id hid).2.1 (I.pB id hid).2.2.1]; exact hb
   have od6 : Ga7 h6 1 tv (D++st3.bytes).length (nU (D++st3.bytes)):=od5.of_blk fun id hid hb=>by rw [k6 id (by have:=g5 id hid; omega)]; exact hb
   have gs6 : Sl h6 1 gv gs.length (nI gs):=gs4.of_sid fun id b hid hb=>by rw [k46 id (blk?_lt hb) (I.gB id hid).1 (fun x=>(I.dB id x).2.2 hid)]; exact hb
   obtain ⟨z2,ez2,hz2,hz2s,zsh⟩:=sub_nI hz6 (c:=c - 1) (by omega)
   obtain ⟨za,zc,hz2sh⟩:=zsh
   have hzl2 : (zs3.take (c - 1)).length = c - 1:=by rw [List.length_take]; omega
   obtain ⟨da,dc,rfl⟩:=od6.sl.shape
   have wc : IntKind.i64.wrap ((c : Int) - 1) = ((c - 1 : Nat) : Int):=by rw [Gan (by omega) (by omega)]; omega
   have hSL:=fun K0 K1 K2 K3 K4 K5 K6 K7 K8 Kb Kd Kh Ki Kj Kk Kl Km Ko Kp Kq Kr Ks Kt Ku Kv Kw Kx Ky Kz J0 J1 J2 J3 J4 J5 J6 J7 J8 J9 Ja Jb Jc Jd Je Jf Jg Jk Jl Jm Jn Jo Jp Jq Jr Js Jt Ju Jv Jw Jx Jy Jz Y0 Y1 Y2 Y3 Y4 Y5 Y6 Y7 Y8 Y9 Ya Yb Yc Yd Ye Yf Yg Yh Yi Yj Yk Yl Ym Yn Yo Yp Yq Yr Ys Yt Yu Yv Yw Yx Yy Yz Z0 Z1 Z2 Z3 Z4 Z5 Z9 Za Zb Zc Zd Ze Zf Zg Zh Zi Zj Zk Zl Zm Zn Zo Zp Zq Zr Zs Zt Zu Zv Zw Zx Zy Zz K0q K1q K2q K3q=>G1q (R:=R) (k:=.code (tlC 1 (tlC 7 (inB (Gau 1 Gec)))) :: .inBlock 1 :: .code (tlC 2 Gec) :: .inLoop Gsg :: .inBlock 0 :: k) (B:=h6.length) (h0:=h6) (pl:=pl) (dv:=.slice da (D++st3.bytes).length dc) (zv:=z2) (pv0:=pv) (D:=D++st3.bytes) (beg:=D.length) (e:=e) (M:=M) (X0:=X0) (X:=X) (gn:=gs.length) (gi:=gi) (sv:=sv) (gv:=gv) (nv:=.int .i64 ((n + c : Nat) : Int)) hz2
    (fun id hid=>by
     have hx:=hz2s id hid
     exact ⟨hz6.lt hx,(zB id hx).2.1,(zB id hx).2.2.1⟩) (by omega) ⟨da,dc,rfl⟩ (by omega) (fun z hz=>by have:=hzb z (List.mem_of_mem_take hz); omega) (by omega) (by rw [← hDl]; omega) (PF:=P++(zs3.take (c - 1)).map (fun z=>min (D.length + z) (D++st3.bytes).length))
    (fun h7 pv7 K0 K1 K2 K3 K4 K5 K6 K7 K8 Kb Kd Kh Ki Kj Kk Kl Km Kn Ko Kp Kq Kr Ks Kt Ku Kv Kw Kx Ky Kz J0 J1 J2 J3 J4 J5 J6 J7 J8 J9 Ja Jb Jc Jd Je Jf Jg Jk Jl Jm Jn Jo Jp Jq Jr Js Jt Ju Jv Jw Jx Jy Jz Y0 Y1 Y2 Y3 Y4 Y5 Y6 Y7 Y8 Y9 Ya Yb Yc Yd Ye Yf Yg Yh Yi Yj Yk Yl Ym Yn Yo Yp Yq Yr Ys Yt Yu Yv Yw Yx Yy Yz Z0 Z1 Z2 Z3 Z4 Z5 Z6 Z7 Z8 Z9 Za Zb Zc Zd Ze Zf Zg Zh Zi Zj Zk Zl Zm Zn Zo Zp Zq Zr Zs Zt Zu Zv Zw Zx Zy Zz K0q K1q K2q K3q op7 k7 bX7 g7 l7=>by
     obtain ⟨h8,eA8,op8,l8,k8⟩:=G4u (v:=(D++st3.bytes).length) op7 (by simp; omega)
     have pX7 : sid pv7 ≠ some X:=fun x=>(g7 X x).2 rfl
     have hXl7:=blk?_lt bX7
     have bX8 : blk? h8 X = some ⟨false,[pl,pv7,.slice da (D++st3.bytes).length dc]⟩:=by rw [k8 X hXl7 pX7]; exact bX7
     have hXl8:=blk?_lt bX8
     have keep9 : ∀ x : Option Blk,∀ id,id < h6.length→id ≠ X→sid pv ≠ some id→blk? (h8.set X x) id = blk? h6 id:=fun x id h1 h2 h3=>by
      rw [blk?_set_ne (Ne.symm h2),k8 id (by omega) (fun y=>by rcases (g7 id y).1 with hy | hy; omega; exact h3 hy),k7 id h1 h2 h3]
     have hE2 : OI hB (h8.set X (some ⟨false,[pl,.slice (some ⟨h7.length + 1,0,none⟩) ((P++(zs3.take (c - 1)).map (fun z=>min (D.length + z) (D++st3.bytes).length)).length + 1) 1,.slice da (D++st3.bytes).length dc]⟩)) e X pl gv gs st3.after
       (.slice (some ⟨h7.length + 1,0,none⟩) ((P++(zs3.take (c - 1)).map (fun z=>min (D.length + z) (D++st3.bytes).length)).length + 1) 1) (.slice da (D++st3.bytes).length dc) ((P++(zs3.take (c - 1)).map (fun z=>min (D.length + z) (D++st3.bytes).length))++[(D++st3.bytes).length]) (D++st3.bytes) (N + Gl3 ((ls.drop n).take c)):=by
      refine ⟨⟨pb4,o4,out4,low4,hA4.keep fun id hid=>?_,hout4,fun id hid=>?_⟩,h194,blk?_set_eq hXl8,?_,?_,?_,fun id hid=>⟨(I.gB id hid).1,by rw [List.length_set]; have:=(I.gB id hid).2; omega⟩,I.xB,fun id hid=>?_,fun id hid=>?_,fun id hid=>?_,by rw [List.length_set]; omega⟩
      ·obtain ⟨q1,q2,q3,q4,q5,q6⟩:=nd id hid
       rw [keep9 _ id (by omega) q3 q4,k46 id q1 q3 q5]
      ·obtain ⟨q1,q2,q3,q4,q5,q6⟩:=nd id hid
       refine ⟨q2,q3,by simp [sid]; omega,fun x=>by have:=g5 id x; omega,q6⟩
      ·exact op8.of_blk fun id hid hb=>by simp [sid] at hid; rw [blk?_set_ne (by omega)]; exact hb
      ·exact od6.of_blk fun id hid hb=>by
        have hx:=g5 id hid
        rw [keep9 _ id (blk?_lt hb) (by omega) (fun y=>by have:=I.op.lt y; omega)]; exact hb
      ·exact gs6.of_sid fun id b hid hb=>by
        rw [keep9 _ id (blk?_lt hb) (I.gB id hid).1 (fun y=>(I.pB id y).2.2.2 hid)]; exact hb
      ·simp [sid] at hid
       subst hid
       exact ⟨by omega,by omega,fun x=>by have:=g5 _ x; omega,fun x=>by have:=(I.gB _ x).2; omega⟩
      ·have hx:=g5 id hid
       exact ⟨by omega,by omega,fun x=>by have:=(I.gB _ x).2; omega⟩
      ·rw [keep9 _ id (by omega) (by have:=I.xB; omega) (fun y=>by have:=(I.pB id y).1; omega),k46 id (by omega) (by have:=I.xB; omega) (fun y=>by have:=(I.dB id y).1; omega),oL id hid]
     have ih':=fun K0 K1 K2 K3 K4 K5 K6 K7 K8 Kb Kd Kh Ki Kj Kk Kl Km Kn Ko Kp Kq Kr Ks Kt Ku Kv Kw Kx Ky Kz J0 J1 J2 J3 J4 J5 J6 J7 J8 J9 Ja Jb Jc Jd Je Jf Jg Jk Jl Jm Jn Jo Jp Jq Jr Js Jt Ju Jv Jw Jx Jy Jz Y0 Y1 Y2 Y3 Y4 Y5 Y6 Y7 Y8 Y9 Ya Yb Yc Yd Ye Yf Yg Yh Yi Yj Yk Yl Ym Yn Yo Yp Yq Yr Ys Yt Yu Yv Yw Yx Yy Yz Z0 Z1 Z2 Z3 Z4 Z5 Z6 Z7 Z8 Z9 Za Zb Zc Zd Ze Zf Zg Zh Zi Zj Zk Zl Zm Zn Zo Zp Zq Zr Zs Zt Zu Zv Zw Zx Zy Zz K0q K1q K2q K3q=>ih (gi + 1) (n + c) _ st3.after _ _ _ _ _ K0 K1 K2 K3 K4 K5 K6 K7 K8 Kb Kd Kh Ki Kj Kk Kl Km Kn Ko Kp Kq Kr Ks Kt Ku Kv Kw Kx Ky Kz J0 J1 J2 J3 J4 J5 J6 J7 J8 J9 Ja Jb Jc Jd Je Jf Jg Jk Jl Jm Jn Jo Jp Jq Jr Js Jt Ju Jv Jw Jx Jy Jz Y0 Y1 Y2 Y3 Y4 Y5 Y6 Y7 Y8 Y9 Ya Yb Yc Yd Ye Yf Yg Yh Yi Yj Yk Yl Ym Yn Yo Yp Yq Yr Ys Yt Yu Yv Yw Yx Yy Yz Z0 Z1 Z2 Z3 Z4 Z5 Z6 Z7 Z8 Z9 Za Zb Zc Zd Ze Zf Zg Zh Zi Zj Zk Zl Zm Zn Zo Zp Zq Zr Zs Zt Zu Zv Zw Zx Zy Zz K0q K1q K2q K3q (by omega) hE2 (by omega) hc1 hso2 (by omega) (by simp only [List.length_append,List.length_map,List.length_cons,List.length_nil,hzl2]; omega) (by rw [← hDl]; omega) hE
     have wg : IntKind.i64.wrap ((gi : Int) + 1) = ((gi + 1 : Nat) : Int):=Gbc (n:=gi + 1) (by omega)
     generalize ((gi + 1 : Nat) : Int) = gi1 at *
     generalize ((n + c : Nat) : Int) = nc at *
     generalize hDD : (D++st3.bytes).length = DD at *
     generalize hPP : (P++(zs3.take (c - 1)).map (fun z=>min (D.length + z) DD)) = PP at *
     simp only [tlC,inB,Gau,Gd5,Gec]
     simp [Gd4,bX7,eA8,bX8,wg]
     exact ih' ..) (zs3.take (c - 1)).length 0 h6 pv P K0 K1 K2 K3 K4 K5 K6 K7 K8 Kb Kd Kh Ki Kj Kk Kl Km Ko Kp Kq Kr Ks Kt Ku Kv Kw Kx Ky Kz J0 J1 J2 J3 J4 J5 J6 J7 J8 J9 Ja Jb Jc Jd Je Jf Jg Jk Jl Jm Jn Jo Jp Jq Jr Js Jt Ju Jv Jw Jx Jy Jz Y0 Y1 Y2 Y3 Y4 Y5 Y6 Y7 Y8 Y9 Ya Yb Yc Yd Ye Yf Yg Yh Yi Yj Yk Yl Ym Yn Yo Yp Yq Yr Ys Yt Yu Yv Yw Yx Yy Yz Z0 Z1 Z2 Z3 Z4 Z5 Z9 Za Zb Zc Zd Ze Zf Zg Zh Zi Zj Zk Zl Zm Zn Zo Zp Zq Zr Zs Zt Zu Zv Zw Zx Zy Zz K0q K1q K2q K3q (by omega) op6 (by omega) (fun _ _ _ _=>rfl) bX6 (fun id hid=>⟨.inr hid,(I.pB id hid).2.1⟩) (Nat.le_refl _) (by rw [List.drop_zero])
   rw [hz2sh] at hSL ez2
   obtain ⟨dva,dvc,hdv⟩:=I.od.sl.shape
   have bX3 : blk? h3 X = some ⟨false,[pl,pv,dv]⟩:=by rw [← F4.same X (by omega) oX.2.1]; exact bX4
   simp only [Int.cast_ofNat_Int] at hSL
   generalize ((n + c : Nat) : Int) = nc at *
   rw [hdv] at bX3 bX4 bX5 eA5
   simp only [Gau,inB,tlC,Gd5,Gec]
   simp only [Gau,inB,tlC,Gd5,Gec] at hSL
   generalize hDD : (D++st3.bytes).length = DD at hh6 eA5 hSL
   generalize hZZ : (zs3.take (c - 1)).length = ZZ at ez2 hSL
   simp [book,Ghq,Gd0,Gb5,Ghw,Gbq,Gcg,bX3,bX4,bX5,eE,eA5,hh6,wc,ez2]
   exact hSL ..
  have hok : ∀ l ∈ (ls.drop (n + 0)).take c,∀ s ∈ l,Gem (if Gaw m n = true then some [] else none : Option (List Nat)) s:=by
   intro l hl s hs
   obtain ⟨j,hj,rfl⟩:=List.getElem_of_mem hl
   have hjc : j < c:=by simp at hj; omega
   have hnj : n + j < ls.length:=by omega
   have e1 : ((ls.drop (n + 0)).take c)[j] = ls[n + j]:=by simp
   rw [e1] at hs
   obtain ⟨q1,q2⟩:=hsym (n + j) hnj s hs
   refine ⟨q1,fun hx=>q2 ?_⟩
   cases hrw : Gaw m n with
   | true=>rw [hrw] at hx; simp at hx
   | false=>exact hso1 hrw j hjc
  have hmid:=fun K0 K1 K2 K3 K4 K5 K6 K7 K8 Kb Kd Kh Kl Km Kn Ko Kp Kq Kr Ks Kt Ku Kv Kw Kx Ky Kz J0 J1 J2 J3 J4 J5 J6 J7 J8 J9 Ja Jb Jc Jd Je Jf Jg Jk Jl Jm Jn Jo Jp Jq Jr Js Jt Ju Jv Jy Jz Y0 Y1 Y2 Y3 Y4 Y5 Y6 Y7 Y8 Y9 Ya Yb Yc Yd Ye Yf Yg Yh Yi Yj Yk Yl Ym Yn Yo Yp Yq Yr Ys Yt Yu Yv Yw Yx Yy Yz Z0 Z1 Z2 Z3 Z4 Z5 Z6 Z7 Z8 Z9 Za Zb Zc Zd Ze Zf Zg Zh Zi Zj Zk Zl Zm Zn Zo Zp Zq Zr Zs Zt Zu Zv Zw Zx Zy Zz K0q K1q K2q K3q=>G6n (R:=R) (k:=.code (tlC 5 (inB (Gau 1 Gec))) :: .inBlock 1 :: .code (tlC 2 Gec) :: .inLoop Gsg :: .inBlock 0 :: k) (e:=e) (M:=M) (X0:=X0) (X:=X) (cnt:=c) (gn:=gs.length) (gi:=gi) (n0:=n) (sv:=sv) (gv:=gv) (v:=v) (m:=m) (h0:=h2) (own0:=own) (stF:=st3) (zsF:=zs3) (NF:=N + Gl3 ((ls.drop n).take c)) (by omega) hp2
   (fun id hid x=>by have:=ownB id x; have:=ltB hp.sb hp.sl hid; omega) (fun i h1 id hid x=>by have:=ownB id x; have hx:=hp.each i h1 (by rw [← hp.len]; exact h1); have:=ltB hx.sb hx.sl hid; omega) hm2 (fun x=>by have:=ownB M x; omega) (by omega) hls
   behind c 0 h2 own ⟨a,if Gaw m n = true then some [] else none⟩ (.slice none 0 0) [] N K0 K1 K2 K3 K4 K5 K6 K7 K8 Kb Kd Kh Kl Km Kn Ko Kp Kq Kr Ks Kt Ku Kv Kw Kx Ky Kz J0 J1 J2 J3 J4 J5 J6 J7 J8 J9 Ja Jb Jc Jd Je Jf Jg Jk Jl Jm Jn Jo Jp Jq Jr Js Jt Ju Jv Jy Jz Y0 Y1 Y2 Y3 Y4 Y5 Y6 Y7 Y8 Y9 Ya Yb Yc Yd Ye Yf Yg Yh Yi Yj Yk Yl Ym Yn Yo Yp Yq Yr Ys Yt Yu Yv Yw Yx Yy Yz Z0 Z1 Z2 Z3 Z4 Z5 Z6 Z7 Z8 Z9 Za Zb Zc Zd Ze Zf Zg Zh Zi Zj Zk Zl Zm Zn Zo Zp Zq Zr Zs Zt Zu Zv Zw Zx Zy Zz K0q K1q K2q K3q (by omega) hK (by rw [Nat.add_zero]) hok (Ga7.nil _ _) (by simp) (by simp) (fun id _=>by simp [sid]) ⟨Nat.le_refl _,fun _ _ _=>rfl,fun id hid=>by rcases hid with hx | hx; exact .inl hx; simp [sid] at hx⟩ (by rw [Nat.add_zero,hr]) (by rw [Nat.add_zero,hr]; rfl)
  clear behind ih
  simp only [Int.natCast_add,Int.cast_ofNat_Int,Int.add_zero] at hmid
  have hrc:=fun H R=>Gxi (h:=H) (R:=R) (n:=n) (by omega) m
  simp only [MD.val] at hrc
  subst hgv
  simp only [Gau,inB,tlC,Gd5,Gec] at hmid
  cases hrw : Gaw m n with
  | false =>
   obtain ⟨rfl,rfl⟩:=hv.1 hrw
   rw [hrw] at hrc
   rw [Gad,G93,Gqv,Gec]
   simp [hgi,hgb,hgc',hmh,hrc]
   exact hmid ..
  | true =>
   obtain ⟨rfl,eN⟩:=hv.2 hrw
   rw [hrw] at hrc
   rw [Gad,G93,Gqv,Gec]
   simp [hgi,hgb,hgc',hmh,hrc,eN]
   exact hmid ..
end
def SymK (rw : Bool) (p : Int × Nat) : Prop:=p.2≤1∧-1≤p.1∧p.1≤18∧(p.1 = -1 ↔ rw = true)
def Gcv (P : PP) (σ : ES) : Prop:=∀ p ∈ σ.out,SymK P.rw p
theorem Geb {P : PP} {σ : ES} (h : Gcv P σ) {c : Int} {n : Nat} (h0 : 0≤c) (h1 : c≤18) (hn : n≤1) : Gcv P (σ.emit P c n):=by
 intro p hp
 simp only [ES.emit,List.mem_append,List.mem_singleton] at hp
 rcases hp with hp | rfl
 ·exact h p hp
 ·unfold SymK
  cases P.rw <;> simp <;> omega
theorem Grs {P : PP} {σ : ES} (h : Gcv P σ) (x y : Int) (f : Cell→Cell) : Gcv P (σ.map x y f):=h
theorem G1o (p s d : Nat) (hs : s≤2) : Qb2 p s d≤8:=by unfold Qb2; (repeat' split) <;> omega
theorem Qal (n d : Nat) : Qc3 n d≤8:=by unfold Qc3; (repeat' split) <;> omega
theorem Gyt {o h v d : Nat} (hh : h≤2) (hv : v≤2) : Grc o h v d≤8:=by
 unfold Grc
 split
 ·exact Qal _ _
 ·split
  ·exact G1o _ _ _ hh
  ·exact G1o _ _ _ hv
theorem G25 (P : PP) (b : BS) (x y : Int) : Gf1 P b x y≤8:=by
 obtain ⟨h1,h2,_⟩:=G08 b x y P.cz
 exact Gyt h1 h2
theorem Grv (s t : Int) : Ggv s t = -1∨Ggv s t = 0∨Ggv s t = 1:=by unfold Ggv; omega
theorem Gsa {h v : Int} (hh : h = -1∨h = 0∨h = 1) (hv : v = -1∨v = 0∨v = 1) : 9≤Gct h v∧Gct h v≤13:=by
 rcases hh with rfl | rfl | rfl <;> rcases hv with rfl | rfl | rfl <;> decide
theorem Gxy (a b : Bool) : 14≤Gd7 a b∧Gd7 a b≤16:=by cases a <;> cases b <;> decide
theorem Gwf (v : Int) (s : Nat) : Gbn v s≤1:=by unfold Gbn; omega
theorem Gzi {P : PP} {σ : ES} (h : Gcv P σ) (x y : Int) : Gcv P (σ.sign P x y):=by
 have:=Gsa (Grv (sgn σ.b (x - 1) y) (sgn σ.b (x + 1) y)) (Grv (sgn σ.b x (y - 1)) (if (!P.cz || y % 4 != 3) = true then sgn σ.b x (y + 1) else 0))
 change 9≤Gct (sgH σ.b x y) (sgV σ.b x y P.cz)∧Gct (sgH σ.b x y) (sgV σ.b x y P.cz)≤13 at this
 exact Grs (Geb h (by omega) (by omega) (by unfold Gdd; omega)) x y mark
theorem G0z {P : PP} {σ : ES} (h : Gcv P σ) (x y : Int) : Gcv P (σ.code P x y):=by
 have h1:=Geb (n:=Gbn (σ.b.get x y).v P.s) (c:=Gf1 P σ.b x y) h (by omega) (by have:=G25 P σ.b x y; omega) (Gwf _ _)
 unfold ES.code
 split
 ·exact Gzi h1 x y
 ·exact h1
theorem G85 {P : PP} {σ : ES} (h : Gcv P σ) (x y : Int) : Gcv P (σ.sig1 P x y):=by
 unfold ES.sig1
 split
 ·exact Grs (G0z h x y) x y _
 ·exact h
theorem Qa4 {P : PP} {σ : ES} (h : Gcv P σ) (x y : Int) : Gcv P (σ.ref1 P x y):=by
 unfold ES.ref1
 split
 ·exact h
 ·have:=Gxy (!(σ.b.get x y).r) (Gg8 σ.b x y P.cz)
  exact Grs (Grs (Geb h (by omega) (by omega) (Gwf _ _)) x y _) x y _
theorem Qa5 {P : PP} {σ : ES} (h : Gcv P σ) (x y : Int) : Gcv P (σ.cln1 P x y):=by
 unfold ES.cln1
 split
 ·exact G0z h x y
 ·exact h
theorem ok_run {P : PP} {σ : ES} (h : Gcv P σ) (x top : Int) : Gcv P (σ.run P x top).1:=by
 unfold ES.run
 split
 ·rename_i k hk
  have hlt:=Gff hk
  exact Gzi (Geb (Geb (Geb h (by omega) (by omega) (by omega)) (by omega) (by omega) (by omega)) (by omega) (by omega) (by omega)) x _
 ·exact Geb h (by omega) (by omega) (by omega)
theorem Gs8 {P : PP} : ∀ (n : Nat) {σ : ES} (x y : Int),Gcv P σ→Gcv P (σ.rows P x y n)
 | 0,_,_,_,h=>h
 | n + 1,_,x,y,h=>Gs8 n x (y + 1) (Qa5 h x y)
theorem ok_col {P : PP} {σ : ES} (h : Gcv P σ) (x top : Int) : Gcv P (σ.col P x top):=by
 unfold ES.col
 split
 ·exact Gs8 _ x _ (ok_run h x top)
 ·exact Gs8 _ x _ h
theorem Gzj {P : PP} : ∀ (n : Nat) {σ : ES} (x top : Int),Gcv P σ→Gcv P (σ.cols P x top n)
 | 0,_,_,_,h=>h
 | n + 1,_,x,top,h=>Gzj n (x + 1) top (ok_col h x top)
theorem Gmu {P : PP} : ∀ (n : Nat) {σ : ES} (top : Int),Gcv P σ→Gcv P (σ.stripes P top n)
 | 0,_,_,h=>h
 | n + 1,_,top,h=>Gmu n (top + 4) (Gzj _ 0 top h)
theorem Gnl {P : PP} {f : ES→Int × Int→ES} (hf : ∀ (σ : ES) (p : Int × Int),Gcv P σ→Gcv P (f σ p)) : ∀ (l : List (Int × Int)) {σ : ES},Gcv P σ→Gcv P (l.foldl f σ)
 | [],_,h=>h
 | p :: l,_,h=>Gnl hf l (hf _ p h)
theorem G6g {P : PP} {σ : ES} (h : Gcv P σ) (on : Bool) : Gcv P (σ.check P on):=by
 unfold ES.check
 split
 ·exact Geb (Geb (Geb (Geb h (by omega) (by omega) (by omega)) (by omega) (by omega) (by omega)) (by omega) (by omega) (by omega)) (by omega) (by omega) (by omega)
 ·exact h
theorem Gjo (m : MD) (b : BS) (n planes o : Nat) : ∀ p ∈ (Gb1 m b n planes o).out,SymK (Gaw m n) p:=by
 have h0 : Gcv (Gc9 m n planes o) ⟨b,[]⟩:=fun p hp=>by simp at hp
 unfold Gb1
 split
 ·exact Gnl (fun σ p h=>G85 h p.1 p.2) _ h0
 ·split
  ·exact Gnl (fun σ p h=>Qa4 h p.1 p.2) _ h0
  ·exact G6g (Gnl (fun σ p h=>Grs h p.1 p.2 _) _ (Gmu _ 0 h0)) m.sy
theorem Ger (m : MD) (planes o : Nat) : ∀ (n k : Nat) (b : BS) (i : Nat) (h : i < (Gaf m planes o n k b).length),∃ b',(Gaf m planes o n k b)[i] = (Gb1 m b' (k + i) planes o).out
 | 0,k,b,i,h=>by simp [Gaf] at h
 | n + 1,k,b,0,h=>⟨b,rfl⟩
 | n + 1,k,b,i + 1,h=>by
  obtain ⟨b',hb⟩:=Ger m planes o n (k + 1) (Gb1 m b k planes o).b i (by simpa [Gaf] using h)
  refine ⟨b',?_⟩
  rw [show k + (i + 1) = k + 1 + i by omega,← hb]
  rfl
theorem Ggs {h : Nat} (top : Int) : ∀ (n : Nat) (x : Int),(Ga3 h x top n).length = n * (min (top + 4) (h : Int) - top).toNat
 | 0,x=>by simp [Ga3]
 | n + 1,x=>by
  rw [Ga3,List.length_append,Ggg,Ggs top n,Nat.add_mul]; omega
theorem Gip {w h : Nat} : ∀ (n : Nat) (top : Int),0≤top→(h : Int)≤top + 4 * n→(Gbw w h top n).length = w * (h - top).toNat
 | 0,top,h0,h1=>by
  rw [show ((h : Int) - top).toNat = 0 by omega]; simp [Gbw]
 | n + 1,top,h0,h1=>by
  rw [Gbw,List.length_append,Ggs,Gip n (top + 4) (by omega) (by omega),← Nat.mul_add]
  congr 1; omega
theorem G00 (w h : Nat) : (scan w h).length = w * h:=by
 have:=Gip (w:=w) (h:=h) (Gai h) 0 (by omega) (by unfold Gai; omega)
 simpa [scan] using this
theorem out_le {m : MD} {b : BS} (hg : b.Good) {k planes o : Nat} : (ES.mk b []).Le (Gb1 m b k planes o) (12 * (b.w * b.h) + 4):=by
 have hsl:=G00 b.w b.h
 have h1:=hg.ok.h1
 have hst : b.w * Gai b.h≤b.w * b.h:=Nat.mul_le_mul (Nat.le_refl _) (by unfold Gai; omega)
 unfold Gb1
 split
 ·exact (G0r (σ:=⟨b,[]⟩) hg (Gc3 b)).mono (by omega)
 ·split
  ·exact (G1a (σ:=⟨b,[]⟩) hg (Gc3 b)).mono (by omega)
  ·have h1:=Ggn (P:=Gc9 m k planes o) (σ:=⟨b,[]⟩) (n:=Gai b.h) hg (top:=0) (by omega) (by show (0 : Int) + 4 * (Gai b.h : Nat)≤b.h + 3; unfold Gai; omega)
   have hall : Gca (ES.stripes (Gc9 m k planes o) ⟨b,[]⟩ 0 (Gai b.h)).b (scan b.w b.h):=by have:=Gc3 (ES.stripes (Gc9 m k planes o) ⟨b,[]⟩ 0 (Gai b.h)).b; rwa [h1.w,h1.h] at this
   have h2:=Gn1 h1.good hall
   have h3:=h1.trans h2
   have h4 : ∀ τ : ES,τ.b.Good→τ.Le (τ.check (Gc9 m k planes o) m.sy) 4:=by
    intro τ hτ
    unfold ES.check
    split
    ·exact ⟨rfl,rfl,hτ,by simp [ES.emit],fun _ _=>rfl⟩
    ·exact ES.Le.refl hτ 4
   exact (h3.trans (h4 _ h3.good)).mono (by show 12 * b.w * Gai b.h + 0 + 4≤_; rw [Nat.mul_assoc]; omega)
theorem Giq {m : MD} {planes o : Nat} : ∀ (n k : Nat) (b : BS),b.Good→Gl3 (Gaf m planes o n k b)≤n * (12 * (b.w * b.h) + 4)
 | 0,_,_,_=>by simp [Gaf,Gl3]
 | n + 1,k,b,hg=>by
  have h1:=out_le (m:=m) hg (k:=k) (planes:=planes) (o:=o)
  have h2:=Giq (m:=m) (planes:=planes) (o:=o) n (k + 1) _ h1.good
  have h3:=h1.len
  rw [h1.w,h1.h] at h2
  rw [Gaf,Gl3,Nat.add_mul]
  simp at h2 h3 ⊢
  omega
theorem Gf3 {xs : List Int} {w hh o : Int} {m : MD} (h0 : (Gaz xs w hh o m).1 = 0) : ∃ (w' h' o' : Nat),Gab xs≤60∧w' * h' = xs.length∧(Ga2 w' h' xs xs.length).Good ∧
  (Gaz xs w hh o m).2 = Gaf m (Gab xs) o' (3 * Gab xs - 2) 0 (Ga2 w' h' xs xs.length):=by
 unfold Gaz at h0 ⊢
 split at h0
 ·simp at h0
 ·rename_i hsz
  split at h0
  ·simp at h0
  ·rename_i hln
   split at h0
   ·simp at h0
   ·rename_i ho
    split at h0
    ·rename_i hb
     have hp:=Gge.1 hb
     rw [if_neg hsz,if_neg hln,if_neg ho,if_pos hb]
     simp only [Bool.not_eq_false,sized,decide_eq_true_eq] at hsz
     obtain ⟨w,rfl⟩:=Int.eq_ofNat_of_zero_le (show 0≤w by omega)
     obtain ⟨hh,rfl⟩:=Int.eq_ofNat_of_zero_le (show 0≤hh by omega)
     simp only [ne_eq,Decidable.not_not] at hln
     rw [← Int.natCast_mul] at hln
     have hl : xs.length = w * hh:=by omega
     exact ⟨w,hh,o.toNat,hp,hl.symm,Gfe (Gcc (by omega) (by omega) (by omega) (by omega)) hl _ (Nat.le_refl _) (by rw [List.take_of_length_le (Nat.le_refl _)]; exact hb),rfl⟩
    ·simp at h0
theorem Gmc {xs : List Int} {w hh o : Int} {m : MD} (h0 : (Gaz xs w hh o m).1 = 0) : Gab xs≤60∧(Gaz xs w hh o m).2.length = 3 * Gab xs - 2:=by
 obtain ⟨w',h',o',hp,_,_,he⟩:=Gf3 h0
 rw [he,Gbg]; exact ⟨hp,rfl⟩
theorem Gx6 {xs : List Int} {w hh o : Int} {m : MD} (hx : xs.length≤400) : Gl3 (Gaz xs w hh o m).2≤900000:=by
 by_cases h0 : (Gaz xs w hh o m).1 = 0
 ·obtain ⟨w',h',o',hp,hl,hg,he⟩:=Gf3 h0
  have h1:=Giq (m:=m) (planes:=Gab xs) (o:=o') (3 * Gab xs - 2) 0 _ hg
  rw [he]
  have h2 : (3 * Gab xs - 2) * (12 * (w' * h') + 4)≤178 * (12 * 400 + 4):=Nat.mul_le_mul (by omega) (by omega)
  have h3 : (Ga2 w' h' xs xs.length).w * (Ga2 w' h' xs xs.length).h = w' * h':=rfl
  rw [h3] at h1
  omega
 ·have : (Gaz xs w hh o m).2 = []:=by
   unfold Gaz at h0 ⊢
   repeat' split
   all_goals simp_all
  rw [this]; simp [Gl3]
theorem Gmy {xs : List Int} {w hh o : Int} {m : MD} (h0 : (Gaz xs w hh o m).1 = 0) : ∀ i (h1 : i < (Gaz xs w hh o m).2.length),∀ s ∈ (Gaz xs w hh o m).2[i],s.2 < 2∧(Gaw m i = false→0≤s.1∧s.1 < 19):=by
 obtain ⟨w',h',o',hp,hl,hg,he⟩:=Gf3 h0
 rw [he]
 intro i h1 s hs
 obtain ⟨b',hb⟩:=Ger m (Gab xs) o' (3 * Gab xs - 2) 0 _ i h1
 rw [hb,Nat.zero_add] at hs
 obtain ⟨q1,q2,q3,q4⟩:=Gjo m b' i (Gab xs) o' s hs
 refine ⟨by omega,fun hr=>?_⟩
 rw [hr] at q4
 have : ¬ s.1 = -1:=fun x=>by have:=q4.1 x; simp at this
 omega
theorem Gkl {m : MD} (hb : m.byp = false) : ∀ (l : List Nat) (n : Nat),Gq1 m n l
 | [],_=>trivial
 | c :: cs,n=>⟨fun _ j _=>by simp [Gaw,hb],Gkl hb cs (n + c)⟩
theorem Gmt {m : MD} : ∀ (l : List Nat) (n : Nat),(∀ c ∈ l,c≤1)→Gq1 m n l
 | [],_,_=>trivial
 | c :: cs,n,h=>⟨fun h0 j hj=>by
   have:=h c (List.mem_cons_self ..)
   have : j = 0:=by omega
   subst this; exact h0,Gmt cs (n + c) fun x hx=>h x (List.mem_cons_of_mem _ hx)⟩
theorem Gqj {m : MD} (hr : m.res = true) : ∀ (f left : Nat),∀ c ∈ Ghv m f 1 left,c≤1
 | 0,_,c,hc=>by simp [Ghv] at hc
 | f + 1,left,c,hc=>by
  unfold Ghv at hc
  split at hc
  ·simp at hc
  ·rcases List.mem_cons.1 hc with rfl | hc
   ·omega
   ·have : Ge5 m 1 = 1:=by unfold Ge5; rw [if_neg (by simp [hr])]
    rw [this] at hc
    exact Gqj hr f _ c hc
theorem Gp8 {m : MD} (hb : m.byp = true) (hr : m.res = false) : ∀ (f sz left n : Nat),(sz = 10∧n = 0)∨(sz = 2∧n % 3 = 1∧10≤n)∨(sz = 1∧n % 3 = 0∧12≤n)→Gq1 m n (Ghv m f sz left)
 | 0,_,_,_,_=>trivial
 | f + 1,sz,left,n,h=>by
  have hnx : Ge5 m sz = if sz = 2 then 1 else 2:=by unfold Ge5; rw [if_pos ⟨hb,hr⟩]
  unfold Ghv
  by_cases h0 : left = 0
  ·rw [if_pos h0]; trivial
  ·rw [if_neg h0]
   refine ⟨fun h1 j hj=>?_,?_⟩
   ·rcases h with ⟨rfl,rfl⟩ | ⟨rfl,h2,h3⟩ | ⟨rfl,h2,h3⟩
    ·have : j < 10:=by omega
     have : Gas (0 + j) < 4:=by unfold Gas; split <;> omega
     simp only [Gaw,Bool.and_eq_false_iff,decide_eq_false_iff_not]
     left; right; omega
    ·have e1 : Gas n = (n - 1) / 3 + 1:=by unfold Gas; rw [if_neg (by omega)]
     have e2 : kindOf n = (n - 1) % 3:=by unfold kindOf; rw [if_neg (by omega)]
     have : Gaw m n = true:=by
      simp only [Gaw,hb,Bool.true_and,Bool.and_eq_true,decide_eq_true_eq,e1,e2]
      omega
     rw [this] at h1; simp at h1
    ·have : j = 0:=by omega
     subst this; exact h1
   ·by_cases hlt : left < sz
    ·have e : left - min sz left = 0:=by omega
     rw [e]
     cases f with
     | zero=>trivial
     | succ f=>unfold Ghv; rw [if_pos rfl]; trivial
    ·have e : min sz left = sz:=by omega
     rw [e]
     refine Gp8 hb hr f _ _ _ ?_
     rw [hnx]
     rcases h with ⟨rfl,rfl⟩ | ⟨rfl,h2,h3⟩ | ⟨rfl,h2,h3⟩
     ·right; left; simp
     ·right; right; simp; omega
     ·right; left; simp; omega
theorem Gkx (m : MD) (n : Nat) : Gq1 m 0 (Gba m n):=by
 unfold Gba
 split
 ·trivial
 ·cases hb : m.byp with
  | false=>exact Gkl hb _ _
  | true =>
   cases hr : m.res with
   | true =>
    have : Gb6 m n = 1:=by unfold Gb6; rw [if_pos hr]
    rw [this]
    exact Gmt _ _ (Gqj hr _ _)
   | false =>
    have : Gb6 m n = 10:=by unfold Gb6; rw [if_neg (by simp [hr]),if_pos hb]
    rw [this]
    exact Gp8 hb hr _ _ _ _ (.inl ⟨rfl,rfl⟩)
structure Cd where
 pl : Nat
 ps : List Nat
 ds : List Nat
def Gal (xs : List Int) (w h o : Int) (m : MD) : Int × Cd :=
 let r:=Gaz xs w h o m
 if r.1 ≠ 0 then (r.1,⟨0,[],[]⟩)
 else
  let q:=Gb2 m r.2 (Gba m r.2.length) 0 (AE.begin (AE.base 19)) [] []
  if 65535 < q.2.length then (5,⟨0,[],[]⟩) else (0,⟨Gab xs,q.1,q.2⟩)
structure CdV (B : Nat) (h : Gag) (v : Value) (r : Cd) : Prop where
 ex : ∃ pv dv,v = .agg #[.int .i64 (r.pl : Nat),pv,dv]∧Ga7 h 1 pv r.ps.length (nI r.ps)∧Ga7 h 1 dv r.ds.length (nU r.ds)∧(∀ id,sid pv = some id→B≤id∧sid dv ≠ some id)∧(∀ id,sid dv = some id→B≤id)
theorem CdV.none (B : Nat) (h : Gag) : CdV B h (.agg #[.int .i64 0,.slice none 0 0,.slice none 0 0]) ⟨0,[],[]⟩ :=
 ⟨⟨_,_,rfl,Ga7.nil _ _,Ga7.nil _ _,fun id hid=>by simp [sid] at hid,fun id hid=>by simp [sid] at hid⟩⟩
section
variable {h : Gag} {R : RP} {k : List Ga1}
theorem G48 {s : Value} {xs : List Int} (hi : Go1 h s xs) (hl : xs.length < 9000000000) (w hh o : Int) (m : MD) (hN : Gl3 (Gaz xs w hh o m).2≤900000) :
  ∃ v h',(∀ R,Ret tab 17 [s,.int .i64 w,.int .i64 hh,.int .i64 o,m.val] h R = R (.tuple #[v,.int .i64 (Gal xs w hh o m).1]) h')∧CdV h.length h' v (Gal xs w hh o m).2∧(∀ id,id < h.length→blk? h' id = blk? h id)∧h.length≤h'.length:=by
 have key : Ret tab 17 [s,.int .i64 w,.int .i64 hh,.int .i64 o,m.val] h fun v h'=>∃ c,v = .tuple #[c,.int .i64 (Gal xs w hh o m).1]∧CdV h.length h' c (Gal xs w hh o m).2∧(∀ id,id < h.length→blk? h' id = blk? h id)∧h.length≤h'.length:=by
  have main : ∀ R0 : RP,(∀ c h',CdV h.length h' c (Gal xs w hh o m).2→(∀ id,id < h.length→blk? h' id = blk? h id)→h.length≤h'.length→R0 (.tuple #[c,.int .i64 (Gal xs w hh o m).1]) h') →
    Ret tab 17 [s,.int .i64 w,.int .i64 hh,.int .i64 o,m.val] h R0:=by
   intro R0 hR
   generalize hH1 : h++[some (⟨false,[.bool m.byp,.bool m.res,.bool m.rst,.bool m.cz,.bool m.sy]⟩ : Blk),some ⟨false,[.int .i64 0,.slice none 0 0,.slice none 0 0]⟩] = H1
   have l1 : H1.length = h.length + 2:=by rw [← hH1]; simp
   have k1 : ∀ id,id < h.length→blk? H1 id = blk? h id:=fun id hid=>by rw [← hH1]; exact Gbf hid
   have bM1 : blk? H1 h.length = some ⟨false,[.bool m.byp,.bool m.res,.bool m.rst,.bool m.cz,.bool m.sy]⟩:=by rw [← hH1,Gbe]; rfl
   have bX1 : blk? H1 (h.length + 1) = some ⟨false,[.int .i64 0,.slice none 0 0,.slice none 0 0]⟩:=by rw [← hH1,Ga0]; rfl
   have hi1 : Go1 H1 s xs:=hi.keep (by omega) (fun id hid _=>k1 id hid)
   obtain ⟨sv,H2,e1,o1⟩:=G07 hi1 hl w hh o m
   have len2:=o1.len
   obtain ⟨vs,hp⟩:=o1.pss
   have bM2 : blk? H2 h.length = some ⟨false,[.bool m.byp,.bool m.res,.bool m.rst,.bool m.cz,.bool m.sy]⟩:=by rw [o1.low _ (by omega)]; exact bM1
   have bX2 : blk? H2 (h.length + 1) = some ⟨false,[.int .i64 0,.slice none 0 0,.slice none 0 0]⟩:=by rw [o1.low _ (by omega)]; exact bX1
   have k2 : ∀ id,id < h.length→blk? H2 id = blk? h id:=fun id hid=>by rw [o1.low _ (by omega),k1 id hid]
   simp only [MD.val] at e1
   rw [Qai,show B17 = .seq (Gau 0 B17) (.seq (Gau 1 B17) (.seq (Gau 2 B17) (tlC 3 B17))) from rfl]
   generalize hT : tlC 3 B17 = tl
   simp only [Gau,tlC,Gd5,B17]
   by_cases h0 : (Gaz xs w hh o m).1 = 0
   case neg =>
    have hne : ((Gaz xs w hh o m).1 != 0) = true:=by simpa using h0
    have hr : Gal xs w hh o m = ((Gaz xs w hh o m).1,⟨0,[],[]⟩):=by unfold Gal; simp only [ne_eq,h0,not_false_eq_true,if_true]
    rw [hr] at hR
    simp [MD.val,hH1,bM1,e1,hne,bX2,blk?_set_eq (blk?_lt bX2),Gae,R17,Gbu,Gpk]
    refine hR _ _ (CdV.none _ _) (fun id hid=>?_) (by simp; omega)
    rw [blk?_set_ne (by omega),k2 id hid]
   have hne : ((Gaz xs w hh o m).1 != 0) = false:=by simpa using h0
   obtain ⟨hp60,hlen⟩:=Gmc h0
   have hsym:=Gmy h0
   have hr0 : Gal xs w hh o m = if 65535 < (Gb2 m (Gaz xs w hh o m).2 (Gba m (Gaz xs w hh o m).2.length) 0 (AE.begin (AE.base 19)) [] []).2.length then (5,⟨0,[],[]⟩) else (0,⟨Gab xs,(Gb2 m (Gaz xs w hh o m).2 (Gba m (Gaz xs w hh o m).2.length) 0 (AE.begin (AE.base 19)) [] []).1,(Gb2 m (Gaz xs w hh o m).2 (Gba m (Gaz xs w hh o m).2.length) 0 (AE.begin (AE.base 19)) [] []).2⟩):=by
    unfold Gal; simp only [ne_eq,h0,not_true_eq_false,if_false]
   rw [hr0] at hR
   generalize hls : (Gaz xs w hh o m).2 = ls at *
   generalize hq : Gb2 m ls (Gba m ls.length) 0 (AE.begin (AE.base 19)) [] [] = q at *
   obtain ⟨PF,DF⟩:=q
   simp only at hR
   simp [MD.val,hH1,bM1,e1,hne]
   rw [← hT]
   clear hT e1
   obtain ⟨H3,e,pb,e2,hA,he,hpb,len3,k3⟩:=G6q (h:=H2) (n:=19) (by omega) (by omega)
   have hi3 : Go1 H3 s xs:=hi1.keep (by omega) (fun id hid _=>by rw [k3 id (by omega),o1.low id hid])
   have e3:=fun R=>Guy (R:=R) hi3 hl
   generalize hH4 : H3++[some (⟨false,[.int .i64 (Gab xs : Nat),.slice none 0 0,.slice none 0 0]⟩ : Blk)] = H4
   have l4 : H4.length = H3.length + 1:=by rw [← hH4]; simp
   have k4 : ∀ id,id < H3.length→blk? H4 id = blk? H3 id:=fun id hid=>by rw [← hH4]; exact blk?_push_lt hid
   have bX4 : blk? H4 H3.length = some ⟨false,[.int .i64 (Gab xs : Nat),.slice none 0 0,.slice none 0 0]⟩:=by rw [← hH4]; exact blk?_push_eq
   have bM4 : blk? H4 h.length = some ⟨false,[.bool m.byp,.bool m.res,.bool m.rst,.bool m.cz,.bool m.sy]⟩:=by rw [k4 _ (by omega),k3 _ (by omega)]; exact bM2
   obtain ⟨H5,gv,e4,og,k5,len5,gB⟩:=G7p (h:=H4) ls.length m (by omega)
   obtain ⟨sg1,sg2,sg3⟩:=Ggh (m:=m) (n:=ls.length) (by omega)
   obtain ⟨ga,gc,hgv⟩:=og.sl.shape
   obtain ⟨sa,sc,hsv⟩:=hp.sl.shape
   have hvl:=hp.len
   have hOI : OI H2 H5 e H3.length (.int .i64 (Gab xs : Nat)) gv (Gba m ls.length) (AE.begin (AE.base 19)) (.slice none 0 0) (.slice none 0 0) [] [] 0:=by
    refine ⟨⟨pb,_,[],0,hA.keep fun id hid=>?_,by simp,fun id hid=>?_⟩,by simp [AE.begin,AE.base],?_,Ga7.nil _ _,Ga7.nil _ _,og.sl,fun id hid=>⟨by have:=gB id hid; omega,og.lt hid⟩,len3,fun id hid=>by simp [sid] at hid,fun id hid=>by simp [sid] at hid,fun id hid=>?_,by omega⟩
    ·have:=hA.own_lt hid
     rw [k5 id (by omega),k4 id this]
    ·have:=hA.own_lt hid
     refine ⟨?_,by omega,by simp [sid],by simp [sid],fun x=>by have:=gB id x; omega⟩
     rcases hid with rfl | rfl | hid
     ·exact he
     ·exact hpb
     ·simp [sid] at hid
    ·rw [k5 _ (by omega)]; exact bX4
    ·rw [k5 _ (by omega),k4 _ (by omega),k3 id hid]
   have hL:=fun K0 K1 K2 K3 K4 K5 K6 K7 K8 Kb Kd Kh Ki Kj Kk Kl Km Kn Ko Kp Kq Kr Ks Kt Ku Kv Kw Kx Ky Kz J0 J1 J2 J3 J4 J5 J6 J7 J8 J9 Ja Jb Jc Jd Je Jf Jg Jk Jl Jm Jn Jo Jp Jq Jr Js Jt Ju Jv Jw Jx Jy Jz Y0 Y1 Y2 Y3 Y4 Y5 Y6 Y7 Y8 Y9 Ya Yb Yc Yd Ye Yf Yg Yh Yi Yj Yk Yl Ym Yn Yo Yp Yq Yr Ys Yt Yu Yv Yw Yx Yy Yz Z0 Z1 Z2 Z3 Z4 Z5 Z6 Z7 Z8 Z9 Za Zb Zc Zd Ze Zf Zg Zh Zi Zj Zk Zl Zm Zn Zo Zp Zq Zr Zs Zt Zu Zv Zw Zx Zy Zz K0q K1q K2q K3q=>Gxg (R:=R0) (k:=[.code (tlC 8 B17)]) (M:=h.length) (X0:=h.length + 1) (X:=H3.length) (sv:=sv) (gv:=gv) (pl:=.int .i64 (Gab xs : Nat)) (e:=e) (gs:=Gba m ls.length) (PF:=PF) (DF:=DF) hp bM2 (by omega) (by omega) (fun i h1=>hsym i h1)
    (fun H6 a pv dv N K0 K1 K2 K3 K4 K5 K6 K7 K8 Kb Kc Kd Ke Kg Kh Ki Kj Kk Kl Km Kn Ko Kp Kq Kr Ks Kt Ku Kv Kw Kx Ky Kz J0 J1 J2 J3 J4 J5 J6 J7 J8 J9 Ja Jb Jc Jd Je Jf Jg Jh Ji Jj Jk Jl Jm Jn Jo Jp Jq Jr Js Jt Ju Jv Jw Jx Jy Jz Y0 Y1 Y2 Y3 Y4 Y5 Y6 Y7 Y8 Y9 Ya Yb Yc Yd Ye Yf Yg Yh Yi Yj Yk Yl Ym Yn Yo Yp Yq Yr Ys Yt Yu Yv Yw Yx Yy Yz Z0 Z1 Z2 Z3 Z4 Z5 Z6 Z7 Z8 Z9 Za Zb Zc Zd Ze Zf Zg Zh Zi Zj Zk Zl Zm Zn Zo Zp Zq Zr Zs Zt Zu Zv Zw Zx Zy Zz K0q K1q K2q K3q I=>by
     obtain ⟨da,dc,hdv⟩:=I.od.sl.shape
     have bx:=I.bx
     have bX6 : blk? H6 (h.length + 1) = some ⟨false,[.int .i64 0,.slice none 0 0,.slice none 0 0]⟩:=by rw [I.low _ (by omega)]; exact bX2
     have hX6:=blk?_lt bX6
     have lowS : ∀ x : Option Blk,∀ id,id < h.length→blk? (H6.set (h.length + 1) x) id = blk? h id:=fun x id hid=>by rw [blk?_set_ne (by omega),I.low id (by omega),k2 id hid]
     have len6:=I.len
     show Ok tab R17 [.code (.seq (Gau 8 B17) (tlC 9 B17))] _ H6 R0
     simp only [Gau,tlC,Gd5,B17]
     by_cases hbig : 65535 < DF.length
     ·rw [if_pos hbig] at hR
      have hb' : (65535 : Int) < (DF.length : Int):=by omega
      rw [hdv] at bx
      generalize hDl : DF.length = dl at *
      simp [bx,hb',bX6,blk?_set_eq hX6,Gae,R17,Gbu,Gpk]
      exact hR _ _ (CdV.none _ _) (fun id hid=>lowS _ id hid) (by simp; omega)
     ·rw [if_neg hbig] at hR
      have hb' : ¬ (65535 : Int) < (DF.length : Int):=by omega
      rw [hdv] at bx
      have hne6 : ¬ h.length + 1 = H3.length:=by omega
      generalize hDl : DF.length = dl at *
      simp [bx,hb',bX6,blk?_set_eq hX6,Gae,R17,Gbu,Gpk]
      refine hR _ _ ⟨⟨pv,dv,by rw [hdv],I.op.of_blk fun id hid hb=>?_,?_,fun id hid=>?_,fun id hid=>?_⟩⟩ (fun id hid=>lowS _ id hid) (by simp; omega)
      ·rw [blk?_set_ne (by have:=(I.pB id hid).1; omega)]; exact hb
      ·exact I.od.of_blk fun id hid hb=>by rw [blk?_set_ne (by have:=(I.dB id hid).1; omega)]; exact hb
      ·have:=I.pB id hid; exact ⟨by omega,this.2.2.1⟩
      ·have:=I.dB id hid; omega)
    (Gba m ls.length).length 0 0 H5 (AE.begin (AE.base 19)) (.slice none 0 0) (.slice none 0 0) [] [] 0 K0 K1 K2 K3 K4 K5 K6 K7 K8 Kb Kd Kh Ki Kj Kk Kl Km Kn Ko Kp Kq Kr Ks Kt Ku Kv Kw Kx Ky Kz J0 J1 J2 J3 J4 J5 J6 J7 J8 J9 Ja Jb Jc Jd Je Jf Jg Jk Jl Jm Jn Jo Jp Jq Jr Js Jt Ju Jv Jw Jx Jy Jz Y0 Y1 Y2 Y3 Y4 Y5 Y6 Y7 Y8 Y9 Ya Yb Yc Yd Ye Yf Yg Yh Yi Yj Yk Yl Ym Yn Yo Yp Yq Yr Ys Yt Yu Yv Yw Yx Yy Yz Z0 Z1 Z2 Z3 Z4 Z5 Z6 Z7 Z8 Z9 Za Zb Zc Zd Ze Zf Zg Zh Zi Zj Zk Zl Zm Zn Zo Zp Zq Zr Zs Zt Zu Zv Zw Zx Zy Zz K0q K1q K2q K3q (by omega) hOI (by rw [List.drop_zero]; omega) (fun c hc=>(sg3 c hc).1) (by rw [List.drop_zero]; exact Gkx m _) (by rw [List.drop_zero]; omega) rfl (by simp; omega) (by rw [List.drop_zero]; exact hq)
   show Ok tab R17 [.code (.seq (Gau 3 B17) (.seq (Gau 4 B17) (.seq (Gau 5 B17) (.seq (Gau 6 B17) (.seq (Gau 7 B17) (tlC 8 B17))))))] _ H2 R0
   generalize hT : tlC 8 B17 = tl at *
   simp only [Gau,tlC,Gd5,B17]
   simp only [Int.cast_ofNat_Int] at e2 hL
   have bM5 : blk? H4 h.length = some ⟨false,[.bool m.byp,.bool m.res,.bool m.rst,.bool m.cz,.bool m.sy]⟩:=bM4
   rw [hgv] at hL e4
   rw [hsv,hvl] at hL ⊢
   simp only [MD.val] at e4
   generalize (Gba m ls.length).length = gl at *
   have b9 : blk? (H3++[some (⟨false,[.int .i64 0,.slice none 0 0,.slice none 0 0]⟩ : Blk)]) H3.length = some ⟨false,[.int .i64 0,.slice none 0 0,.slice none 0 0]⟩:=blk?_push_eq
   have s9 : (H3++[some (⟨false,[.int .i64 0,.slice none 0 0,.slice none 0 0]⟩ : Blk)]).set H3.length (some ⟨false,[.int .i64 (Gab xs : Nat),.slice none 0 0,.slice none 0 0]⟩) = H4:=by rw [← hH4]; simp
   simp [e2,e3,b9,s9,bM4,e4]
   exact hL ..
  exact main _ fun c h' a b d=>⟨c,rfl,a,b,d⟩
 obtain ⟨v,h',e,c,rfl,a,b,d⟩:=Gck key
 exact ⟨c,h',e,a,b,d⟩
end
def Grb (f : Nat) (args : List Value) (h : Gag) (v : Value) : Prop :=
 ∃ h',(∀ R : RP,Ret tab f args h R = R v h')∧(∀ id,id < h.length→blk? h' id = blk? h id)∧h.length≤h'.length
theorem Grb.mk {f : Nat} {args : List Value} {h : Gag} {v : Value} (k : ∀ R0 : RP,(∀ h',(∀ id,id < h.length→blk? h' id = blk? h id)→h.length≤h'.length→R0 v h')→Ret tab f args h R0) : Grb f args h v:=by
 obtain ⟨w,h',e,rfl,a,b⟩:=Gck (k (fun w h'=>w = v∧(∀ id,id < h.length→blk? h' id = blk? h id)∧h.length≤h'.length) fun h' a b=>⟨rfl,a,b⟩)
 exact ⟨h',e,a,b⟩
def vgo : List Int→Int→Option Int
 | [],l=>some l
 | x :: xs,l=>if x < l then none else vgo xs x
def Gex (pl : Int) (ps ds : List Int) : Int :=
 if pl < 0∨60 < pl then 2
 else if max 0 (3 * pl - 2) < (ps.length : Int) then 4
 else match vgo ps 0 with
  | none=>4
  | some l=>if l ≠ (ds.length : Int) then 4 else if 65535 < ds.length then 5 else 0
theorem mx2 {k k' : IntKind} {x y : Int} : Gh1 (.int k x) (.int k' y) = some (.int k (max x y)):=by
 have e : (if x < y then y else x) = max x y:=by split <;> omega
 rw [Gh1,e]
section
variable {h : Gag} {R : RP} {k : List Ga1} {pv dv pv' dv' : Value} {pl pl' : Int} {ps ps' ds ds' : List Int} {m : MD}
theorem Qbu {B : Nat} (hp : Rk .i64 h pv ps) (hl : ps.length < 1000000) {X : Nat} (hk : ∀ (l : Int) (K0 K1 K3 K6 K7 K8 K9 Ka Kb Kc Kd Ke Kf Kg Kh Ki Kj Kk Kl Km Kn Ko Kp Kq Kr Ks Kt Ku Kv Kw Kx Ky Kz J0 J1 J2 J3 J4 J5 J6 J7 J8 J9 : Value),vgo ps 0 = some l→Ok tab R34 k #[K0,K1,ptr X,K3,.int .i64 0,.int .i64 l,K6,K7,K8,K9,Ka,Kb,Kc,Kd,Ke,Kf,Kg,Kh,Ki,Kj,Kk,Kl,Km,Kn,Ko,Kp,Kq,Kr,Ks,Kt,Ku,Kv,Kw,Kx,Ky,Kz,J0,J1,J2,J3,J4,J5,J6,J7,J8,J9] h R) (hb : vgo ps 0 = none→R (.int .i64 4) h) :
  ∀ (d i : Nat) (l : Int) (K0 K1 K3 K6 K7 K8 K9 Ka Kb Kc Kd Ke Kf Kg Kh Ki Kj Kk Kl Km Kn Ko Kp Kt Ku Kv Kw Kx Ky Kz J0 J1 J2 J3 J4 J5 J6 J7 J8 J9 : Value),i + d = ps.length→vgo (ps.drop i) l = vgo ps 0→Ok tab R34 (.inLoop G6j :: .inBlock 0 :: k) #[K0,K1,ptr X,K3,.int .i64 0,.int .i64 l,K6,K7,K8,K9,Ka,Kb,Kc,Kd,Ke,Kf,Kg,Kh,Ki,Kj,Kk,Kl,Km,Kn,Ko,Kp,pv,.int .i64 (ps.length : Nat),.int .i64 (i : Nat),Kt,Ku,Kv,Kw,Kx,Ky,Kz,J0,J1,J2,J3,J4,J5,J6,J7,J8,J9] h R:=by
 intro d
 induction d with
 | zero =>
  intro i l;intros;rename_i hd hv
  obtain rfl : i = ps.length:=by omega
  rw [List.drop_length] at hv
  rw [Gad,Qdq,Gwq,Gt1]
  simp
  exact hk l _ _ _ _ _ _ _ _ _ _ _ _ _ _ _ _ _ _ _ _ _ _ _ _ _ _ _ _ _ _ _ _ _ _ _ _ _ _ _ _ _ _ _ hv.symm
 | succ d ih =>
  intro i l;intros;rename_i hd hv
  have hi : i < ps.length:=by omega
  have hlt : (i : Int) < (ps.length : Int):=by omega
  obtain ⟨id,off,b,hpv,hbk,hc⟩:=hp.get hi
  rw [List.drop_eq_getElem_cons hi] at hv
  simp only [vgo] at hv
  have hw : IntKind.i64.wrap ((i : Int) + 1) = ((i + 1 : Nat) : Int):=Gbc (n:=i + 1) (by omega)
  have ih':=fun K0 K1 K3 K6 K7 K8 K9 Ka Kb Kc Kd Ke Kf Kg Kh Ki Kj Kk Kl Km Kn Ko Kp Kt Ku Kv Kw Kx Ky Kz J0 J1 J2 J3 J4 J5 J6 J7 J8 J9=>ih (i + 1) ps[i] K0 K1 K3 K6 K7 K8 K9 Ka Kb Kc Kd Ke Kf Kg Kh Ki Kj Kk Kl Km Kn Ko Kp Kt Ku Kv Kw Kx Ky Kz J0 J1 J2 J3 J4 J5 J6 J7 J8 J9 (by omega)
  generalize ((i + 1 : Nat) : Int) = i1 at *
  rw [Gad,Qdq,Gwq,Gt1]
  by_cases hx : ps[i] < l
  ·rw [if_pos hx] at hv
   rw [hpv]
   simp [Gaa,hlt,hbk,hc,hx,Gr5]
   exact hb hv.symm
  ·rw [if_neg hx] at hv
   rw [hpv] at ih' ⊢
   simp [Gaa,hlt,hbk,hc,hx,hw]
   exact ih' _ _ _ _ _ _ _ _ _ _ _ _ _ _ _ _ _ _ _ _ _ _ _ _ _ _ _ _ _ _ _ _ _ _ _ _ _ _ _ _ hv
theorem Qah (hp : Rk .i64 h pv ps) (hd : Rk .u8 h dv ds) (hl : ps.length < 1000000) (hdl : ds.length < 1000000000) : Grb 34 [.agg #[.int .i64 pl,pv,dv],m.val] h (.int .i64 (Gex pl ps ds)):=by
 refine Grb.mk fun R0 hR=>?_
 generalize hH : h++[some (⟨false,[.int .i64 pl,pv,dv]⟩ : Blk),some ⟨false,[.bool m.byp,.bool m.res,.bool m.rst,.bool m.cz,.bool m.sy]⟩] = H
 have hb0 : blk? H h.length = some ⟨false,[.int .i64 pl,pv,dv]⟩:=by rw [← hH,Gbe]; rfl
 have hpH : Rk .i64 H pv ps:=by rw [← hH]; exact hp.push _
 have hR':=hR H (fun id hid=>by rw [← hH]; exact Gbf hid) (by rw [← hH]; simp)
 clear hR
 rw [G89,show B34 = .seq (Gau 0 B34) (.seq (Gau 1 B34) (.seq (Gau 2 B34) (.seq (Gau 3 B34) (.seq (Gau 4 B34) (tlC 5 B34))))) from rfl]
 generalize hT : tlC 5 B34 = tl
 simp only [Gau,tlC,Gd5,B34]
 obtain ⟨pa,pc,hpv⟩:=hp.sl.shape
 obtain ⟨da,dc,hdv⟩:=hd.sl.shape
 unfold Gex at hR'
 by_cases h1 : pl < 0
 ·rw [if_pos (.inl h1)] at hR'
  simp [Gaa,Gah,MD.val,hH,hb0,h1,Gr5]
  exact hR'
 by_cases h2 : 60 < pl
 ·rw [if_pos (.inr h2)] at hR'
  simp [Gaa,Gah,MD.val,hH,hb0,h1,h2,Gr5]
  exact hR'
 rw [if_neg (by omega)] at hR'
 have w1 : IntKind.i64.wrap (3 * pl) = 3 * pl:=by rw [Gan (by omega) (by omega)]
 have w2 : IntKind.i64.wrap (3 * pl - 2) = 3 * pl - 2:=by rw [Gan (by omega) (by omega)]
 by_cases h3 : max 0 (3 * pl - 2) < (ps.length : Int)
 ·rw [if_pos h3] at hR'
  rw [hpv] at hH hb0
  simp [Gaa,Gah,MD.val,hH,hb0,h1,h2,h3,w1,w2,Gci,Gcq,mx2,hpv,Gr5]
  exact hR'
 rw [if_neg h3] at hR'
 have hL:=fun K0 K1 K3 K6 K7 K8 K9 Ka Kb Kc Kd Ke Kf Kg Kh Ki Kj Kk Kl Km Kn Ko Kp Kt Ku Kv Kw Kx Ky Kz J0 J1 J2 J3 J4 J5 J6 J7 J8 J9=>Qbu (R:=R0) (B:=0) (k:=[.code tl]) hpH hl (X:=h.length)
  (fun l K0 K1 K3 K6 K7 K8 K9 Ka Kb Kc Kd Ke Kf Kg Kh Ki Kj Kk Kl Km Kn Ko Kp Kq Kr Ks Kt Ku Kv Kw Kx Ky Kz J0 J1 J2 J3 J4 J5 J6 J7 J8 J9 hv=>by
   rw [hv] at hR'
   simp only at hR'
   rw [← hT]
   simp only [Gau,tlC,Gd5,B34]
   by_cases h4 : l = (ds.length : Int)
   ·rw [if_neg (by simp [h4])] at hR'
    by_cases h5 : 65535 < ds.length
    ·rw [if_pos h5] at hR'
     have h5' : (65535 : Int) < (ds.length : Int):=by omega
     rw [hdv] at hb0
     simp [hb0,h4,h5',Gr5]
     exact hR'
    ·rw [if_neg h5] at hR'
     have h5' : ¬ (65535 : Int) < (ds.length : Int):=by omega
     rw [hdv] at hb0
     simp [hb0,h4,h5',Gr5]
     exact hR'
   ·rw [if_pos h4] at hR'
    have h4' : (l != (ds.length : Int)) = true:=by simpa using h4
    rw [hdv] at hb0
    simp [hb0,h4',Gr5]
    exact hR')
  (fun hv=>by rw [hv] at hR'; exact hR') ps.length 0 0 K0 K1 K3 K6 K7 K8 K9 Ka Kb Kc Kd Ke Kf Kg Kh Ki Kj Kk Kl Km Kn Ko Kp Kt Ku Kv Kw Kx Ky Kz J0 J1 J2 J3 J4 J5 J6 J7 J8 J9 (by omega) (by rw [List.drop_zero])
 rw [hpv] at hH hb0 hL
 simp [Gaa,Gah,MD.val,hH,hb0,h1,h2,h3,w1,w2,Gci,Gcq,mx2,hpv]
 exact hL ..
end
def AD.back (a : AD) : AD:={ a with p:=AE.base a.p.length }
def G17 (m : MD) (planes o : Int) (i : Nat) (a : AD) (raw : Option (List Nat × Nat)) (b : BS) : (BS × Bool) × RS :=
 Gkc RS.ask m b i planes o ⟨if m.rst = true∧Gaw m i = false then a.back else a,raw,[]⟩
def Qb3 (planes o : Int) (i : Nat) (ok : Bool) (snd : Int) : Int:=if Gx7 i planes o ok = 16 then min snd (max 0 (3 * (Gas i : Int) - 2)) else snd
structure Rdg where
 a : AD
 raw : Option (List Nat × Nat)
 b : BS
 snd : Int
 ls : List (List (Int × Nat))
def Gdm (m : MD) (planes o : Int) : Nat→Nat→Rdg→Rdg
 | 0,_,s=>s
 | k + 1,i,s =>
  let r:=G17 m planes o i s.a s.raw s.b
  Gdm m planes o k (i + 1) ⟨r.2.a,r.2.raw,r.1.1,Qb3 planes o i r.1.2 s.snd,s.ls++[r.2.l]⟩
def KpR (Q : Nat→Prop) (X6 X11 p k1 : Nat) (vs : List Value) (id : Nat) : Prop:=Q id∨id = X6∨id = X11∨id = p∨id = k1∨∃ w ∈ vs,sid w = some id
structure RI (Q : Nat→Prop) (hB h : Gag) (X6 X11 p c d pb k1 : Nat) (pl : Int) (pv dv0 : Value) (m : MD) (v : Value) (own : Nat→Prop) (lv : Value) (vs : List Value) (s : Rdg) (N : Nat) : Prop where
 b6 : blk? h X6 = some ⟨false,[.int .i64 pl,pv,dv0]⟩
 b11 : blk? h X11 = some ⟨false,[.bool m.byp,.bool m.res,.bool m.rst,.bool m.cz,.bool m.sy]⟩
 cb : CB h false p c s.b
 good : s.b.Good
 sq : Sq h d pb v own s.a s.raw
 b1 : blk? h k1 = some ⟨false,[v]⟩
 ol : Ga7 h 1 lv vs.length vs
 vl : vs.length = s.ls.length
 each : ∀ i (h1 : i < vs.length) (h2 : i < s.ls.length),Ga7 h 2 vs[i] s.ls[i].length (Ggt s.ls[i])
 kp : ∀ id,KpR Q X6 X11 p k1 vs id→¬ own id∧id ≠ c∧sid lv ≠ some id∧id < h.length
 no : ∀ id,own id→id ≠ c∧sid lv ≠ some id
 nl : sid lv ≠ some c
 cnt : ∀ xs q,s.raw = some (xs,q)→q≤N
 low : ∀ id,Q id→blk? h id = blk? hB id
 len : hB.length≤h.length
 small : ∀ l ∈ s.ls,l.length≤20000
 k1s : ¬ Q k1∧k1 ≠ X6∧k1 ≠ X11∧k1 ≠ p∧∀ w ∈ vs,sid w ≠ some k1
 cB : ¬ Q c∧c ≠ X6∧c ≠ X11
theorem Gep {h h' : Gag} {e n : Nat} {v : Value} {cs : List Value} (o : Ga7 h e v n cs) (hk : ∀ id,sid v = some id→blk? h' id = blk? h id) : Ga7 h' e v n cs :=
 o.of_blk fun id hid hb=>by rw [hk id hid]; exact hb
section
variable {R : RP} {h : Gag}
theorem Qbj {d pb : Nat} {v : Value} {own : Nat→Prop} {a : AD} {raw : Option (List Nat × Nat)} (K : Sq h d pb v own a raw) :
  ∃ h',(∀ R : RP,Ret tab 59 [ptr d] h R = R (.tuple #[]) h')∧Sq h' d pb v own a.back raw∧(∀ id,¬ own id→blk? h' id = blk? h id)∧h'.length = h.length:=by
 cases K with
 | @cod dv D n _ I h19 hD hl =>
  obtain ⟨h',e,I2,k2,l2⟩:=Gwe I.dp I.pos (by omega)
  refine ⟨h',e,.cod (a:=a.back) ⟨?_,I.rest,⟨Gfw _,I.ok.dig,I.ok.v,I.ok.s1,I.ok.s2⟩,by simpa [AD.back,AE.base] using I.pos⟩ (by simpa [AD.back,AE.base] using h19) hD hl,fun id hno=>k2 id (fun x=>hno (.inr (.inl x))),l2⟩
  exact I2
 | @raw dv sv D xs n v sz q mm st _ I h19 hp J hd =>
  obtain ⟨h',e,I2,k2,l2⟩:=Gwe I (by omega) (by omega)
  exact ⟨h',e,.raw (a:=a.back) I2 (by simpa [AD.back,AE.base] using h19) (Gfw _) (J.keep fun id hid=>k2 id (fun x=>hd pb (.inr (.inl rfl)) (by rw [← x]; exact hid))) hd,fun id hno=>k2 id (fun x=>hno (.inl (.inr (.inl x)))),l2⟩
theorem G9v (n planes o : Int) (ok : Bool) : (Gx7 n planes o ok = 16) ↔ (Gbj n planes o = 0∧ok = false):=by
 unfold Gx7 Gbj
 cases ok <;> (repeat' split) <;> simp_all
theorem G59 {m : MD} {b : BS} (hg : b.Good) (planes o : Int) (i : Nat) (st : RS) : (Gkc RS.ask m b i planes o st).2.l.length≤st.l.length + 20000:=by
 unfold Gkc
 split
 ·rename_i he
  have hr : planes≤60∧1≤planes∧o≤3:=by unfold Gbj at he; split at he; cases he; split at he; cases he; omega
  exact (Tr.Lv.out (A:=RS.ask) (size:=fun s=>s.l.length) (fun s c=>by simp [RS.ask]) st (Gsp hg (Gjh (by omega) (by omega) (by omega)))).2
 ·exact Nat.le_add_right _ _
theorem G9m (planes o : Int) (i : Nat) (ok : Bool) (snd : Int) : Qb3 planes o i ok snd = if (Gx7 i planes o ok == 16) = true then min snd (max 0 (3 * (Gas i : Int) - 2)) else snd:=by
 unfold Qb3; simp only [beq_iff_eq]
theorem Gsm {Q : Nat→Prop} {hB : Gag} {X6 X11 p c d pb k1 : Nat} {pl o : Int} {pv dv0 v20 v49 v50 v51 : Value} {m : MD} {k : List Ga1} {sF : Rdg}
  (hk : ∀ (h : Gag) (v : Value) (own : Nat→Prop) (lv : Value) (vs : List Value) (N : Nat) (K0 K1 K2 K3 K5 K7 K8 K9 Ka Kc Kd Ke Kg Kl Km Kn Ko Kp Kq Kr Ks Kt Ku Kv Kw Kx Ky Kz J0 J1 J2 J3 J4 J5 J6 J7 J8 J9 Ja Jb Jc Jg Jh Ji Jj Jk Jl Jm Jn Jo Jp Jq Jr Js Jt Ju Jv Jw Jx Jy Jz Y0 Y1 Y2 Y3 Y4 Y5 Y6 Y7 Y8 Y9 Ya Yb Yc Yd Ye Yf Yg Yh Yi Yj Yk Yl Ym Yn Yo Yp Yq Yr Ys Yt Yu Yv Yw Yx Yy Yz Z0 Z1 Z2 Z3 Z4 Z5 Z6 Z7 Z8 Z9 Za Zb Zc Zd Ze Zf Zg Zh Zi Zj Zk Zl Zm : Value),RI Q hB h X6 X11 p c d pb k1 pl pv dv0 m v own lv vs sF N →
   Ok tab R27 k #[K0,K1,K2,K3,.int .i64 o,K5,ptr X6,K7,K8,K9,Ka,ptr X11,Kc,Kd,Ke,ptr p,Kg,ptr d,lv,.int .i64 sF.snd,v20,Kl,Km,Kn,Ko,Kp,Kq,Kr,Ks,Kt,Ku,Kv,Kw,Kx,Ky,Kz,J0,J1,J2,J3,J4,J5,J6,J7,J8,J9,Ja,Jb,Jc,v49,v50,v51,Jg,Jh,Ji,Jj,Jk,Jl,Jm,Jn,Jo,Jp,Jq,Jr,Js,Jt,Ju,Jv,Jw,Jx,Jy,Jz,Y0,Y1,Y2,Y3,Y4,Y5,Y6,Y7,Y8,Y9,Ya,Yb,Yc,Yd,Ye,Yf,Yg,Yh,Yi,Yj,Yk,Yl,Ym,Yn,Yo,Yp,Yq,Yr,Ys,Yt,Yu,Yv,Yw,Yx,Yy,Yz,Z0,Z1,Z2,Z3,Z4,Z5,Z6,Z7,Z8,Z9,Za,Zb,Zc,Zd,Ze,Zf,Zg,Zh,Zi,Zj,Zk,Zl,Zm] h R) :
  ∀ (q : Nat) (h : Gag) (v : Value) (own : Nat→Prop) (lv : Value) (vs : List Value) (s : Rdg) (N : Nat) (K0 K1 K2 K3 K5 K7 K8 K9 Ka Kc Kd Ke Kg Kl Kn Ko Kq Kr Ks Kt Ku Kv Kw Kx Ky Kz J0 J1 J2 J3 J4 J5 J6 J7 J8 J9 Ja Jb Jc Jg Jh Ji Jj Jk Jl Jm Jn Jo Jp Jq Jr Js Jt Ju Jv Jw Jx Jy Jz Y0 Y1 Y2 Y3 Y4 Y5 Y6 Y7 Y8 Y9 Ya Yb Yc Yd Ye Yf Yg Yh Yi Yj Yk Yl Ym Yn Yo Yp Yq Yr Ys Yt Yu Yv Yw Yx Yy Yz Z0 Z1 Z2 Z3 Z4 Z5 Z6 Z7 Z8 Z9 Za Zb Zc Zd Ze Zf Zg Zh Zi Zj Zk Zl Zm : Value),RI Q hB h X6 X11 p c d pb k1 pl pv dv0 m v own lv vs s N→s.ls.length + q≤178→N + q * 20000≤50000000 →
   Gdm m pl o q s.ls.length s = sF →
   Ok tab R27 (.inLoop Gx5 :: .inBlock 2 :: k) #[K0,K1,K2,K3,.int .i64 o,K5,ptr X6,K7,K8,K9,Ka,ptr X11,Kc,Kd,Ke,ptr p,Kg,ptr d,lv,.int .i64 s.snd,v20,Kl,.int .i64 (q : Nat),Kn,Ko,ptr k1,Kq,Kr,Ks,Kt,Ku,Kv,Kw,Kx,Ky,Kz,J0,J1,J2,J3,J4,J5,J6,J7,J8,J9,Ja,Jb,Jc,v49,v50,v51,Jg,Jh,Ji,Jj,Jk,Jl,Jm,Jn,Jo,Jp,Jq,Jr,Js,Jt,Ju,Jv,Jw,Jx,Jy,Jz,Y0,Y1,Y2,Y3,Y4,Y5,Y6,Y7,Y8,Y9,Ya,Yb,Yc,Yd,Ye,Yf,Yg,Yh,Yi,Yj,Yk,Yl,Ym,Yn,Yo,Yp,Yq,Yr,Ys,Yt,Yu,Yv,Yw,Yx,Yy,Yz,Z0,Z1,Z2,Z3,Z4,Z5,Z6,Z7,Z8,Z9,Za,Zb,Zc,Zd,Ze,Zf,Zg,Zh,Zi,Zj,Zk,Zl,Zm] h R:=by
 intro q
 induction q with
 | zero =>
  intro h v own lv vs s N;intros;rename_i I hq hN hF
  simp only [Gdm] at hF
  subst hF
  rw [Gad,Qc5,Gu3,Gev]
  simp
  exact hk h v own lv vs N _ _ _ _ _ _ _ _ _ _ _ _ _ _ _ _ _ _ _ _ _ _ _ _ _ _ _ _ _ _ _ _ _ _ _ _ _ _ _ _ _ _ _ _ _ _ _ _ _ _ _ _ _ _ _ _ _ _ _ _ _ _ _ _ _ _ _ _ _ _ _ _ _ _ _ _ _ _ _ _ _ _ _ _ _ _ _ _ _ _ _ _ _ _ _ _ _ _ _ _ _ _ _ _ _ _ _ _ _ _ _ _ _ _ _ _ _ _ _ _ I
 | succ q ih =>
  intro h v own lv vs s N;intros;rename_i I hq hN hF
  have hpos : (0 : Int) < ((q + 1 : Nat) : Int):=by omega
  have hn : s.ls.length < 100000:=by omega
  obtain ⟨la,lc,hlv⟩:=I.ol.sl.shape
  have hvl:=I.vl
  have hraw:=fun H R=>Gxi (h:=H) (R:=R) (n:=s.ls.length) hn m
  have hpass:=fun H R=>Grq (h:=H) (R:=R) (n:=s.ls.length) (by omega)
  simp only [MD.val] at hraw
  have kk:=fun id hid=>I.kp id hid
  have kk6:=kk X6 (.inr (.inl rfl))
  have kk11:=kk X11 (.inr (.inr (.inl rfl)))
  have kkp:=kk p (.inr (.inr (.inr (.inl rfl))))
  have kk1:=kk k1 (.inr (.inr (.inr (.inr (.inl rfl)))))
  obtain ⟨s1,s2,s3,s4,s5⟩:=I.k1s
  have stepA : ∃ hA,(m.rst = true→Gaw m s.ls.length = false→∀ R : RP,Ret tab 59 [ptr d] h R = R (.tuple #[]) hA)∧(¬ (m.rst = true∧Gaw m s.ls.length = false)→hA = h)∧Sq hA d pb v own (if m.rst = true∧Gaw m s.ls.length = false then s.a.back else s.a) s.raw∧(∀ id,¬ own id→blk? hA id = blk? h id)∧hA.length = h.length:=by
   by_cases hr : m.rst = true∧Gaw m s.ls.length = false
   ·obtain ⟨hA,e,K,kA,lA⟩:=Qbj I.sq
    exact ⟨hA,fun _ _=>e,fun x=>absurd hr x,by rw [if_pos hr]; exact K,kA,lA⟩
   ·exact ⟨h,fun x y=>absurd ⟨x,y⟩ hr,fun _=>rfl,by rw [if_neg hr]; exact I.sq,fun _ _=>rfl,rfl⟩
  obtain ⟨hA,eA,nA,KA,kA,lA⟩:=stepA
  generalize ha1 : (if m.rst = true∧Gaw m s.ls.length = false then s.a.back else s.a) = a1 at *
  generalize hB2 : hA++[some (⟨false,[.slice none 0 0]⟩ : Blk)] = h2
  have l2 : h2.length = h.length + 1:=by rw [← hB2]; simp [lA]
  have k2 : ∀ id,id < h.length→blk? h2 id = blk? hA id:=fun id hid=>by rw [← hB2]; exact blk?_push_lt (by omega)
  have b2k : blk? h2 h.length = some ⟨false,[.slice none 0 0]⟩:=by rw [← hB2,← lA]; exact blk?_push_eq
  have keep2 : ∀ id,id < h.length→¬ own id→blk? h2 id = blk? h id:=fun id h1 h3=>by rw [k2 id h1,kA id h3]
  have hcl:=blk?_lt I.cb.blkc
  have hno : ¬ own c:=fun x=>(I.no c x).1 rfl
  have cb2 : CB h2 false p c s.b:=⟨by rw [keep2 p kkp.2.2.2 kkp.1]; exact I.cb.blkp,by rw [keep2 c hcl hno]; exact I.cb.blkc,I.cb.ok⟩
  have own_lt : ∀ id,own id→id < h.length:=fun id hid=>I.sq.own_lt hid
  have r2 : Gyb d pb k1 h.length c N h2 ⟨v,own,.slice none 0 0⟩ ⟨a1,s.raw,[]⟩:=by
   refine ⟨KA.keep fun id hid=>k2 id (own_lt id hid),by rw [keep2 k1 kk1.2.2.2 kk1.1]; exact I.b1,b2k,Ga7.nil _ _,by have:=kk1.2.2.2; omega,fun id hid=>⟨fun x=>kk1.1 (by rw [← x]; exact hid),by have:=own_lt id hid; omega,by simp [sid],(I.no id hid).1⟩,fun id hid=>by simp [sid] at hid,⟨kk1.2.1,by omega⟩,by omega,fun xs qq hx=>by have:=I.cnt xs qq hx; simp; omega⟩
  obtain ⟨t',h3,e3,D3⟩:=Qch (A:=rsSrc d pb k1 h.length c N) (t:=⟨v,own,.slice none 0 0⟩) (s:=⟨a1,s.raw,[]⟩) cb2 I.good.rng ⟨r2,by omega⟩
   (by rintro (x | x | x | x); exact kkp.1 x; exact s4 x.symm; (have:=kkp.2.2.2; omega); simp [sid] at x) (by have:=kk1.2.2.2; simp; omega) (by show 0 + 100000 < 1000000; omega) (s.ls.length : Int) pl o m
  have hR3 : G17 m pl o s.ls.length s.a s.raw s.b = Gkc RS.ask m s.b s.ls.length pl o ⟨a1,s.raw,[]⟩:=by unfold G17; rw [ha1]
  have hlen3:=G59 (m:=m) I.good pl o s.ls.length ⟨a1,s.raw,[]⟩
  have e3' : ∀ R : RP,Ret tab 60 [ptr p,.int .i64 (s.ls.length : Nat),.int .i64 pl,.int .i64 o,m.val,.func (.func 61) #[] #[ptr k1,ptr h.length]] h2 R = R (.int .i64 (Gx7 s.ls.length pl o (Gkc RS.ask m s.b s.ls.length pl o ⟨a1,s.raw,[]⟩).1.2)) h3:=e3
  have cb3 : CB h3 false p c (Gkc RS.ask m s.b s.ls.length pl o ⟨a1,s.raw,[]⟩).1.1:=D3.cb
  have good3 : (Gkc RS.ask m s.b s.ls.length pl o ⟨a1,s.raw,[]⟩).1.1.Good:=D3.good
  have r3 : Gyb d pb k1 h.length c N h3 t' (Gkc RS.ask m s.b s.ls.length pl o ⟨a1,s.raw,[]⟩).2:=D3.rel.1
  have S3 : Stq h2 h3 c (RT.all k1 h.length ⟨v,own,.slice none 0 0⟩) (t'.all k1 h.length):=D3.st
  clear e3 D3
  simp only [Gdm,hR3] at hF
  generalize Gkc RS.ask m s.b s.ls.length pl o ⟨a1,s.raw,[]⟩ = r at *
  obtain ⟨⟨b3,ok3⟩,st3⟩:=r
  simp only at e3' cb3 good3 r3 hF hlen3
  have len3:=S3.len
  have lvlt : ∀ id,sid lv = some id→id < h.length:=fun id hid=>I.ol.lt hid
  have fresh3 : ∀ id,t'.all k1 h.length id→own id∨id = k1∨id = h.length∨h2.length≤id:=fun id hid=>by
   rcases S3.fresh id hid with (x | x | x | x) | x
   ·exact .inl x
   ·exact .inr (.inl x)
   ·exact .inr (.inr (.inl x))
   ·simp [sid] at x
   ·exact .inr (.inr (.inr x))
  have lvfresh : ∀ id,t'.all k1 h.length id→sid lv ≠ some id:=fun id hid hx=>by
   have:=lvlt id hx
   rcases fresh3 id hid with x | rfl | rfl | x
   ·exact (I.no id x).2 hx
   ·exact kk1.2.2.1 hx
   ·omega
   ·omega
  have keep3 : ∀ id,id < h.length→id ≠ c→¬ own id→id ≠ k1→blk? h3 id = blk? h id:=fun id h1 hc ho hk=>by
   rw [S3.same id (by omega) hc (by rintro (x | x | x | x); exact ho x; exact hk x; omega; simp [sid] at x),keep2 id h1 ho]
  generalize hH4 : h3++[some (⟨false,[t'.lv]⟩ : Blk)] = h4
  have l4 : h4.length = h3.length + 1:=by rw [← hH4]; simp
  have k4 : ∀ id,id < h3.length→blk? h4 id = blk? h3 id:=fun id hid=>by rw [← hH4]; exact blk?_push_lt hid
  have b4 : blk? h4 h3.length = some ⟨false,[t'.lv]⟩:=by rw [← hH4]; exact blk?_push_eq
  have ol4 : Ga7 h4 1 lv vs.length vs:=Gep I.ol fun id hid=>by
   have:=lvlt id hid
   rw [k4 id (by omega),keep3 id this (fun x=>I.nl (by rw [← x]; exact hid)) (fun x=>(I.no id x).2 hid) (fun x=>kk1.2.2.1 (by rw [← x]; exact hid))]
  have ht4 : Sl h4 1 (.slice (some ⟨h3.length,0,none⟩) 1 1) 1 [t'.lv]:=⟨rfl,.inr ⟨h3.length,0,rfl,.inr ⟨_,b4,by simp,by simp⟩⟩⟩
  obtain ⟨h5,a5,b5,l5,k5⟩:=Gbs (bytes:=24) ol4 ht4 (by unfold Gaq; omega) (by omega) (by omega)
  rw [l4] at a5 b5 l5 k5
  have keep5 : ∀ id,id < h3.length→sid lv ≠ some id→blk? h5 id = blk? h3 id:=fun id h1 h2=>by rw [k5 id (by omega) h2,k4 id h1]
  have keep : ∀ id,KpR Q X6 X11 p k1 vs id→id ≠ k1→blk? h5 id = blk? h id:=fun id hid hk=>by
   obtain ⟨q1,q2,q3,q4⟩:=I.kp id hid
   rw [keep5 id (by omega) q3,keep3 id q4 q2 q1 hk]
  obtain ⟨c1,c2,c3⟩:=I.cB
  have I5 : RI Q hB h5 X6 X11 p c d pb k1 pl pv dv0 m t'.v t'.own (.slice (some ⟨h3.length + 1,0,none⟩) (vs.length + 1) 1) (vs++[t'.lv]) ⟨st3.a,st3.raw,b3,Qb3 pl o s.ls.length ok3 s.snd,s.ls++[st3.l]⟩ (N + st3.l.length):=by
   have lenB:=I.len
   have kk1l:=kk1.2.2.2
   have hcl3:=blk?_lt cb3.blkc
   have hpl3:=blk?_lt cb3.blkp
   refine ⟨by rw [keep X6 (.inr (.inl rfl)) (Ne.symm s2)]; exact I.b6,by rw [keep X11 (.inr (.inr (.inl rfl))) (Ne.symm s3)]; exact I.b11,⟨by rw [keep5 p hpl3 kkp.2.2.1]; exact cb3.blkp,by rw [keep5 c hcl3 I.nl]; exact cb3.blkc,cb3.ok⟩,good3,
    r3.sq.keep fun id hid=>keep5 id (r3.sq.own_lt hid) (lvfresh id (.inl hid)),by rw [keep5 k1 (by omega) kk1.2.2.1]; exact r3.b1,⟨by simp,.inr ⟨h3.length + 1,by simp,b5⟩⟩,by simp [hvl],fun i h1 h2=>?_,fun id hid=>?_,fun id hid=>?_,?_,fun xs qq hx=>?_,fun id hid=>?_,by omega,fun l hl=>?_,⟨s1,s2,s3,s4,fun w hw=>?_⟩,⟨c1,c2,c3⟩⟩
   ·by_cases hi : i < vs.length
    ·have hi2 : i < s.ls.length:=by omega
     have e1 : (vs++[t'.lv])[i] = vs[i]:=by rw [List.getElem_append_left hi]
     have e2 : (s.ls++[st3.l])[i] = s.ls[i]:=by rw [List.getElem_append_left hi2]
     simp only [e1,e2]
     exact Gep (I.each i hi hi2) fun id hid=>keep id (.inr (.inr (.inr (.inr (.inr ⟨_,List.getElem_mem hi,hid⟩))))) (fun x=>s5 _ (List.getElem_mem hi) (by rw [← x]; exact hid))
    ·simp only [List.length_append,List.length_singleton] at h1
     have hie : i = vs.length:=by omega
     subst hie
     have e1 : (vs++[t'.lv])[vs.length] = t'.lv:=by simp
     have e2 : (s.ls++[st3.l])[vs.length] = st3.l:=by rw [List.getElem_append_right (by omega)]; simp [hvl]
     simp only [e1,e2]
     exact Gep r3.ol fun id hid=>keep5 id (r3.ol.lt hid) (lvfresh id (.inr (.inr (.inr hid))))
   ·have old : KpR Q X6 X11 p k1 vs id→¬ t'.own id∧id ≠ c∧sid (.slice (some ⟨h3.length + 1,0,none⟩) (vs.length + 1) 1) ≠ some id∧id < h5.length:=fun hid=>by
     obtain ⟨q1,q2,q3,q4⟩:=I.kp id hid
     refine ⟨fun x=>?_,q2,by simp [sid]; omega,by omega⟩
     rcases fresh3 id (.inl x) with y | y | y | y
     ·exact q1 y
     ·exact (r3.no id x).1 y
     ·omega
     ·omega
    rcases hid with hid | hid | hid | hid | hid | ⟨w,hw,hid⟩
    ·exact old (.inl hid)
    ·exact old (.inr (.inl hid))
    ·exact old (.inr (.inr (.inl hid)))
    ·exact old (.inr (.inr (.inr (.inl hid))))
    ·exact old (.inr (.inr (.inr (.inr (.inl hid)))))
    ·rcases List.mem_append.1 hw with hw | hw
     ·exact old (.inr (.inr (.inr (.inr (.inr ⟨w,hw,hid⟩)))))
     ·simp at hw; subst hw
      have:=r3.ol.lt hid
      exact ⟨fun x=>(r3.no id x).2.2.1 hid,(r3.nl id hid).2.2,by simp [sid]; omega,by omega⟩
   ·have:=r3.sq.own_lt hid
    exact ⟨(r3.no id hid).2.2.2,by simp [sid]; omega⟩
   ·simp [sid]; omega
   ·exact r3.cnt xs qq hx
   ·rw [keep id (.inl hid) (fun x=>s1 (by rw [← x]; exact hid))]; exact I.low id hid
   ·rcases List.mem_append.1 hl with hl | hl
    ·exact I.small l hl
    ·simp at hl; subst hl; simpa using hlen3
   ·rcases List.mem_append.1 hw with hw | hw
    ·exact s5 w hw
    ·simp at hw; subst hw; exact fun x=>(r3.nl k1 x).1 rfl
  have hlen3' : st3.l.length≤20000:=by simpa using hlen3
  have ih':=fun K0 K1 K2 K3 K5 K7 K8 K9 Ka Kc Kd Ke Kg Kl Kn Ko Kq Kr Ks Kt Ku Kv Kw Kx Ky Kz J0 J1 J2 J3 J4 J5 J6 J7 J8 J9 Ja Jb Jc Jg Jh Ji Jj Jk Jl Jm Jn Jo Jp Jq Jr Js Jt Ju Jv Jw Jx Jy Jz Y0 Y1 Y2 Y3 Y4 Y5 Y6 Y7 Y8 Y9 Ya Yb Yc Yd Ye Yf Yg Yh Yi Yj Yk Yl Ym Yn Yo Yp Yq Yr Ys Yt Yu Yv Yw Yx Yy Yz Z0 Z1 Z2 Z3 Z4 Z5 Z6 Z7 Z8 Z9 Za Zb Zc Zd Ze Zf Zg Zh Zi Zj Zk Zl Zm=>ih h5 t'.v t'.own _ _ _ (N + st3.l.length) K0 K1 K2 K3 K5 K7 K8 K9 Ka Kc Kd Ke Kg Kl Kn Ko Kq Kr Ks Kt Ku Kv Kw Kx Ky Kz J0 J1 J2 J3 J4 J5 J6 J7 J8 J9 Ja Jb Jc Jg Jh Ji Jj Jk Jl Jm Jn Jo Jp Jq Jr Js Jt Ju Jv Jw Jx Jy Jz Y0 Y1 Y2 Y3 Y4 Y5 Y6 Y7 Y8 Y9 Ya Yb Yc Yd Ye Yf Yg Yh Yi Yj Yk Yl Ym Yn Yo Yp Yq Yr Ys Yt Yu Yv Yw Yx Yy Yz Z0 Z1 Z2 Z3 Z4 Z5 Z6 Z7 Z8 Z9 Za Zb Zc Zd Ze Zf Zg Zh Zi Zj Zk Zl Zm I5 (by simp; omega) (by omega) (by rw [← hF]; simp)
  have b62 : blk? h2 X6 = some ⟨false,[.int .i64 pl,pv,dv0]⟩:=by rw [keep2 X6 kk6.2.2.2 kk6.1]; exact I.b6
  have b112 : blk? h2 X11 = some ⟨false,[.bool m.byp,.bool m.res,.bool m.rst,.bool m.cz,.bool m.sy]⟩:=by rw [keep2 X11 kk11.2.2.2 kk11.1]; exact I.b11
  have b3k:=r3.b2
  have b11:=I.b11
  obtain ⟨ta,tc,htl⟩:=r3.ol.sl.shape
  have hpl:=Gdg (n:=s.ls.length) (planes:=s.ls.length + 1) (by omega) (by omega)
  have w1 : IntKind.i64.wrap (3 * (Gas s.ls.length : Int)) = 3 * (Gas s.ls.length : Int):=by rw [Gan (by omega) (by omega)]
  have w2 : IntKind.i64.wrap (3 * (Gas s.ls.length : Int) - 2) = 3 * (Gas s.ls.length : Int) - 2:=by rw [Gan (by omega) (by omega)]
  have w3 : IntKind.i64.wrap (((q + 1 : Nat) : Int) - 1) = (q : Int):=by rw [Gan (by omega) (by omega)]; omega
  simp only [MD.val] at e3'
  simp only [G9m] at ih'
  rw [hvl] at hlv ih' a5
  rw [htl] at b3k hH4
  rw [hlv] at a5
  generalize ((q + 1 : Nat) : Int) = q1 at *
  generalize hde : Gx7 (s.ls.length : Nat) pl o ok3 = de at *
  have done : ∀ K0 K1 K2 K3 K5 K7 K8 K9 Ka Kc Kd Ke Kg Kl Ko Kq Kr Ks Kt Ku Kv Kw Kx Ky Kz J0 J1 J2 J3 J4 J5 J6 J7 J8 J9 Ja Jb Jc Jg Jh Ji Jj Jk Jl Jm Jn Jo Jp Jq Jr Js Jt Ju Jv Jw Jx Jy Jz Y0 Y1 Y2 Y3 Y4 Y5 Y6 Y7 Y8 Y9 Ya Yb Yc Yd Ye Yf Yg Yh Yi Yj Yk Yl Ym Yn Yo Yp Yq Yr Ys Yt Yu Yv Yw Yx Yy Yz Z0 Z1 Z2 Z3 Z4 Z5 Z6 Z7 Z8 Z9 Za Zb Zc Zd Ze Zf Zg Zh Zi Zj Zk Zl Zm : Value,Ok tab R27 (.code (tlC 2 (inB (Gau 0 Gev))) :: .inBlock 3 :: .code (tlC 1 Gev) :: .inLoop Gx5 :: .inBlock 2 :: k) #[K0,K1,K2,K3,.int .i64 o,K5,ptr X6,K7,K8,K9,Ka,ptr X11,Kc,Kd,Ke,ptr p,Kg,ptr d,lv,.int .i64 s.snd,v20,Kl,.int .i64 q1,.int .i64 (s.ls.length : Nat),Ko,ptr k1,Kq,Kr,Ks,Kt,Ku,Kv,Kw,Kx,Ky,Kz,J0,J1,J2,J3,J4,J5,J6,J7,J8,J9,Ja,Jb,Jc,v49,v50,v51,Jg,Jh,Ji,Jj,Jk,Jl,Jm,Jn,Jo,Jp,Jq,Jr,Js,Jt,Ju,Jv,Jw,Jx,Jy,Jz,Y0,Y1,Y2,Y3,Y4,Y5,Y6,Y7,Y8,Y9,Ya,Yb,Yc,Yd,Ye,Yf,Yg,Yh,Yi,Yj,Yk,Yl,Ym,Yn,Yo,Yp,Yq,Yr,Ys,Yt,Yu,Yv,Yw,Yx,Yy,Yz,Z0,Z1,Z2,Z3,Z4,Z5,Z6,Z7,Z8,Z9,Za,Zb,Zc,Zd,Ze,Zf,Zg,Zh,Zi,Zj,Zk,Zl,Zm] hA R:=by
   intros
   rw [hlv]
   simp only [Gau,tlC,Gd5,inB,Gev]
   by_cases hd16 : de = 16
   ·have hd' : (de == 16) = true:=by simpa using hd16
    simp only [hd',if_true] at ih'
    simp [hB2,lA,e3',b62,b112,hpass,hd',w1,w2,Gci,Gcq,mx2,mn2,b3k,Gd4,hH4,a5,w3]
    exact ih' ..
   ·have hd' : (de == 16) = false:=by simpa using hd16
    simp only [hd',Bool.false_eq_true,if_false] at ih'
    simp [hB2,lA,e3',b62,b112,hpass,hd',b3k,Gd4,hH4,a5,w3]
    exact ih' ..
  clear ih' ih
  rw [Gad,Qc5,Gu3,show Gev = .seq (.block 3 (.seq (Gau 0 (inB (Gau 0 Gev))) (.seq (Gau 1 (inB (Gau 0 Gev))) (tlC 2 (inB (Gau 0 Gev)))))) (tlC 1 Gev) from rfl]
  generalize tlC 2 (inB (Gau 0 Gev)) = tl2 at *
  simp only [Gau,tlC,Gd5,inB,Gev] at done ⊢
  rw [hlv] at done ⊢
  cases hrst : m.rst with
  | false =>
   have hAh:=nA (by rw [hrst]; simp)
   subst hAh
   rw [hrst] at b11 hraw
   simp [Gaa,hpos,b11]
   exact done ..
  | true =>
   cases hrw : Gaw m s.ls.length with
   | true =>
    have hAh:=nA (by rw [hrw]; simp)
    subst hAh
    rw [hrst] at b11 hraw
    rw [hrw] at hraw
    simp [Gaa,hpos,b11,hraw]
    exact done ..
   | false =>
    have eR:=eA hrst hrw
    rw [hrst] at b11 hraw
    rw [hrw] at hraw
    simp [Gaa,hpos,b11,hraw,eR]
    exact done ..
end
def Gr0 (ds : List Nat) (beg e : Nat) : List Nat:=(ds.take e).drop beg
def Gh4 (m : MD) (planes o : Int) (ps : List Int) (ds : List Nat) : List Nat→Nat→Rdg→Rdg
 | [],_,s=>s
 | c :: cs,beg,s =>
  let e:=(ps.getD (s.ls.length + c - 1) 0).toNat
  Gh4 m planes o ps ds cs e (Gdm m planes o c s.ls.length (if Gaw m s.ls.length = true then { s with raw:=some (Gr0 ds beg e,0) } else { s with a:=AD.start s.a.p (Gr0 ds beg e),raw:=none }))
def KpO (Q : Nat→Prop) (X6 X11 p : Nat) (vs : List Value) (id : Nat) : Prop:=Q id∨id = X6∨id = X11∨id = p∨∃ w ∈ vs,sid w = some id
structure RO (Q : Nat→Prop) (hB h : Gag) (X6 X11 p c d pb : Nat) (pl : Int) (pv dv0 : Value) (m : MD) (lv : Value) (vs : List Value) (s : Rdg) : Prop where
 b6 : blk? h X6 = some ⟨false,[.int .i64 pl,pv,dv0]⟩
 b11 : blk? h X11 = some ⟨false,[.bool m.byp,.bool m.res,.bool m.rst,.bool m.cz,.bool m.sy]⟩
 cb : CB h false p c s.b
 good : s.b.Good
 dp : ∃ dv D n v sz st,DP h d pb dv D n s.a.p v sz st∧s.a.p.length = 19∧Gp1 s.a.p∧∀ id,Gf6 d pb dv id→¬ KpO Q X6 X11 p vs id∧id ≠ c∧sid lv ≠ some id
 ol : Ga7 h 1 lv vs.length vs
 vl : vs.length = s.ls.length
 each : ∀ i (h1 : i < vs.length) (h2 : i < s.ls.length),Ga7 h 2 vs[i] s.ls[i].length (Ggt s.ls[i])
 kp : ∀ id,KpO Q X6 X11 p vs id→id ≠ c∧sid lv ≠ some id∧id < h.length
 nl : sid lv ≠ some c
 low : ∀ id,Q id→blk? h id = blk? hB id
 len : hB.length≤h.length
 small : ∀ l ∈ s.ls,l.length≤20000
 cB : ¬ Q c∧c ≠ X6∧c ≠ X11
theorem Sq.dp {h : Gag} {d pb : Nat} {v : Value} {own : Nat→Prop} {a : AD} {raw : Option (List Nat × Nat)} (K : Sq h d pb v own a raw) : ∃ dv D n v' sz st,DP h d pb dv D n a.p v' sz st∧a.p.length = 19∧Gp1 a.p∧∀ id,Gf6 d pb dv id→own id:=by
 cases K with
 | @cod dv D n _ I h19 hD hl=>exact ⟨dv,D,n,_,_,_,I.dp,h19,I.ok.ps,fun id hid=>hid⟩
 | @raw dv sv D xs n v sz q mm st _ I h19 hp J hd=>exact ⟨dv,D,n,v,sz,st,I,h19,hp,fun id hid=>.inl hid⟩
theorem KpO.r {Q : Nat→Prop} {X6 X11 p k1 : Nat} {vs : List Value} {id : Nat} (k : KpO Q X6 X11 p vs id) : KpR Q X6 X11 p k1 vs id:=by
 rcases k with x | x | x | x | x
 ·exact .inl x
 ·exact .inr (.inl x)
 ·exact .inr (.inr (.inl x))
 ·exact .inr (.inr (.inr (.inl x)))
 ·exact .inr (.inr (.inr (.inr (.inr x))))
theorem RI.ro {Q : Nat→Prop} {hB h : Gag} {X6 X11 p c d pb k1 : Nat} {pl : Int} {pv dv0 : Value} {m : MD} {v : Value} {own : Nat→Prop} {lv : Value} {vs : List Value} {s : Rdg} {N : Nat} (I : RI Q hB h X6 X11 p c d pb k1 pl pv dv0 m v own lv vs s N) :
  RO Q hB h X6 X11 p c d pb pl pv dv0 m lv vs s:=by
 obtain ⟨dv,D,n,v',sz,st,a1,a2,a3,a4⟩:=I.sq.dp
 exact ⟨I.b6,I.b11,I.cb,I.good,⟨dv,D,n,v',sz,st,a1,a2,a3,fun id hid=>⟨fun x=>(I.kp id x.r).1 (a4 id hid),(I.no id (a4 id hid)).1,(I.no id (a4 id hid)).2⟩⟩,I.ol,I.vl,I.each,fun id hid=>(I.kp id hid.r).2,I.nl,I.low,I.len,I.small,I.cB⟩
def zE (ps : List Int) (n : Nat) : Nat:=if n = 0 then 0 else (ps.getD (n - 1) 0).toNat
theorem nU_kis (D : List Nat) : kis .u8 (D.map Int.ofNat) = nU D:=by simp [kis,nU]
theorem seg_sl {h : Gag} {dv : Value} {ds : List Nat} (hd : Rk .u8 h dv (ds.map Int.ofNat)) {beg e : Nat} (h1 : beg≤e) (h2 : e≤ds.length) :
  ∃ s',Gc8 1 dv (some (.int .i64 (beg : Nat))) (some (.int .i64 (e : Nat))) = some s'∧Sl h 1 s' (Gr0 ds beg e).length (nU (Gr0 ds beg e)):=by
 have hl : (ds.map Int.ofNat).length = ds.length:=by simp
 obtain ⟨s',e1,r⟩:=hd.sub (l:=beg) (t:=e) (lo:=some (.int .i64 (beg : Nat))) (hi':=some (.int .i64 (e : Nat))) h1 (by omega) (by simp [Gl5,bnd]; omega) (by simp [Gl5,bnd]; omega)
 have em : ((ds.map Int.ofNat).take e).drop beg = (Gr0 ds beg e).map Int.ofNat:=by unfold Gr0; rw [List.map_drop,List.map_take]
 refine ⟨s',e1,?_⟩
 have:=r.sl
 rw [em,nU_kis,List.length_map] at this
 exact this
section
variable {R : RP} {h : Gag}
theorem Gxl {Q : Nat→Prop} {hB : Gag} {X6 X11 p c d pb : Nat} {pl o : Int} {pv dv0 gv : Value} {m : MD} {k : List Ga1} {sF : Rdg} {gs : List Nat} {ps : List Int} {ds : List Nat}
  (hg : Sl hB 1 gv gs.length (nI gs)) (hgq : ∀ id,sid gv = some id→Q id) (hp : Rk .i64 hB pv ps) (hpq : ∀ id,sid pv = some id→Q id) (hd : Rk .u8 hB dv0 (ds.map Int.ofNat)) (hdq : ∀ id,sid dv0 = some id→Q id)
  (hc1 : ∀ x ∈ gs,1≤x) (hps : ∀ x ∈ ps,0≤x) (hz : ∀ i j,i≤j→j≤ps.length→zE ps i≤zE ps j∧zE ps j≤ds.length) (hdl : ds.length < 100000000) (hds : ∀ x ∈ ds,x < 256) (hpl : ps.length≤178) (hgn : gs.length≤178)
  (hk : ∀ (h : Gag) (lv : Value) (vs : List Value) (K0 K1 K2 K3 K4 K5 K6 K7 K8 K9 Ka Kb Kc Kd Ke Kf Kg Kh Kk Kl Km Kn Ko Kp Kq Kr Ks Kt Ku Kv Kw Kx Ky Kz J0 J1 J2 J3 J4 J5 J6 J7 J8 J9 Ja Jb Jc Jd Je Jf Jg Jh Ji Jj Jk Jl Jm Jn Jo Jp Jq Jr Js Jt Ju Jv Jw Jx Jy Jz Y0 Y1 Y2 Y3 Y4 Y5 Y6 Y7 Y8 Y9 Ya Yb Yc Yd Ye Yf Yg Yh Yi Yj Yk Yl Ym Yn Yo Yp Yq Yr Ys Yt Yu Yv Yw Yx Yy Yz Z0 Z1 Z2 Z3 Z4 Z5 Z6 Z7 Z8 Z9 Za Zb Zc Zd Ze Zf Zg Zh Zi Zj Zk Zl Zm : Value),RO Q hB h X6 X11 p c d pb pl pv dv0 m lv vs sF→Ok tab R27 k #[K0,K1,K2,K3,K4,K5,K6,K7,K8,K9,Ka,Kb,Kc,Kd,Ke,Kf,Kg,Kh,lv,.int .i64 sF.snd,Kk,Kl,Km,Kn,Ko,Kp,Kq,Kr,Ks,Kt,Ku,Kv,Kw,Kx,Ky,Kz,J0,J1,J2,J3,J4,J5,J6,J7,J8,J9,Ja,Jb,Jc,Jd,Je,Jf,Jg,Jh,Ji,Jj,Jk,Jl,Jm,Jn,Jo,Jp,Jq,Jr,Js,Jt,Ju,Jv,Jw,Jx,Jy,Jz,Y0,Y1,Y2,Y3,Y4,Y5,Y6,Y7,Y8,Y9,Ya,Yb,Yc,Yd,Ye,Yf,Yg,Yh,Yi,Yj,Yk,Yl,Ym,Yn,Yo,Yp,Yq,Yr,Ys,Yt,Yu,Yv,Yw,Yx,Yy,Yz,Z0,Z1,Z2,Z3,Z4,Z5,Z6,Z7,Z8,Z9,Za,Zb,Zc,Zd,Ze,Zf,Zg,Zh,Zi,Zj,Zk,Zl,Zm] h R) :
  ∀ (q gi : Nat) (h : Gag) (lv : Value) (vs : List Value) (s : Rdg) (beg : Nat) (K0 K1 K2 K3 K5 K7 K8 K9 Ka Kc Kd Ke Kg Kl Km Kn Ko Kp Kq Kr Ks Kt Ku Kv Kw Kx Ky Kz J0 J1 J2 J3 J4 J5 J6 J7 J8 J9 Ja Jb Jc Jg Jh Ji Jj Jk Jl Jm Jn Jo Jp Jq Jr Js Jt Ju Jv Jw Jx Jy Jz Y0 Y1 Y2 Y3 Y4 Y5 Y6 Y7 Y8 Y9 Ya Yb Yc Yd Ye Yf Yg Yh Yi Yj Yk Yl Ym Yn Yo Yp Yq Yr Ys Yt Yu Yv Yw Yx Yy Yz Z0 Z1 Z2 Z3 Z4 Z5 Z6 Z7 Z8 Z9 Za Zb Zc Zd Ze Zf Zg Zh Zi Zj Zk Zl Zm : Value),gi + q = gs.length→RO Q hB h X6 X11 p c d pb pl pv dv0 m lv vs s→s.ls.length + Gi4 (gs.drop gi)≤ps.length→beg = zE ps s.ls.length →
   Gh4 m pl o ps ds (gs.drop gi) beg s = sF →
   Ok tab R27 (.inLoop Gtc :: .inBlock 0 :: k) #[K0,K1,K2,K3,.int .i64 o,K5,ptr X6,K7,K8,K9,Ka,ptr X11,Kc,Kd,Ke,ptr p,Kg,ptr d,lv,.int .i64 s.snd,.int .i64 (beg : Nat),Kl,Km,Kn,Ko,Kp,Kq,Kr,Ks,Kt,Ku,Kv,Kw,Kx,Ky,Kz,J0,J1,J2,J3,J4,J5,J6,J7,J8,J9,Ja,Jb,Jc,gv,.int .i64 (gs.length : Nat),.int .i64 (gi : Nat),Jg,Jh,Ji,Jj,Jk,Jl,Jm,Jn,Jo,Jp,Jq,Jr,Js,Jt,Ju,Jv,Jw,Jx,Jy,Jz,Y0,Y1,Y2,Y3,Y4,Y5,Y6,Y7,Y8,Y9,Ya,Yb,Yc,Yd,Ye,Yf,Yg,Yh,Yi,Yj,Yk,Yl,Ym,Yn,Yo,Yp,Yq,Yr,Ys,Yt,Yu,Yv,Yw,Yx,Yy,Yz,Z0,Z1,Z2,Z3,Z4,Z5,Z6,Z7,Z8,Z9,Za,Zb,Zc,Zd,Ze,Zf,Zg,Zh,Zi,Zj,Zk,Zl,Zm] h R:=by
 intro q
 induction q with
 | zero =>
  intro gi h lv vs s beg K0 K1 K2 K3 K5 K7 K8 K9 Ka Kc Kd Ke Kg Kl Km Kn Ko Kp Kq Kr Ks Kt Ku Kv Kw Kx Ky Kz J0 J1 J2 J3 J4 J5 J6 J7 J8 J9 Ja Jb Jc Jg Jh Ji Jj Jk Jl Jm Jn Jo Jp Jq Jr Js Jt Ju Jv Jw Jx Jy Jz Y0 Y1 Y2 Y3 Y4 Y5 Y6 Y7 Y8 Y9 Ya Yb Yc Yd Ye Yf Yg Yh Yi Yj Yk Yl Ym Yn Yo Yp Yq Yr Ys Yt Yu Yv Yw Yx Yy Yz Z0 Z1 Z2 Z3 Z4 Z5 Z6 Z7 Z8 Z9 Za Zb Zc Zd Ze Zf Zg Zh Zi Zj Zk Zl Zm hgi I hn hbeg hF
  obtain rfl : gi = gs.length:=by omega
  rw [List.drop_length] at hF
  simp only [Gh4] at hF
  subst hF
  rw [Gad,G9r,Gqt,Gda]
  simp
  exact hk h lv vs _ _ _ _ _ _ _ _ _ _ _ _ _ _ _ _ _ _ _ _ _ _ _ _ _ _ _ _ _ _ _ _ _ _ _ _ _ _ _ _ _ _ _ _ _ _ _ _ _ _ _ _ _ _ _ _ _ _ _ _ _ _ _ _ _ _ _ _ _ _ _ _ _ _ _ _ _ _ _ _ _ _ _ _ _ _ _ _ _ _ _ _ _ _ _ _ _ _ _ _ _ _ _ _ _ _ _ _ _ _ _ _ _ _ _ _ _ _ _ _ _ _ _ _ _ _ _ _ _ I
 | succ q ih =>
  intro gi h lv vs s beg K0 K1 K2 K3 K5 K7 K8 K9 Ka Kc Kd Ke Kg Kl Km Kn Ko Kp Kq Kr Ks Kt Ku Kv Kw Kx Ky Kz J0 J1 J2 J3 J4 J5 J6 J7 J8 J9 Ja Jb Jc Jg Jh Ji Jj Jk Jl Jm Jn Jo Jp Jq Jr Js Jt Ju Jv Jw Jx Jy Jz Y0 Y1 Y2 Y3 Y4 Y5 Y6 Y7 Y8 Y9 Ya Yb Yc Yd Ye Yf Yg Yh Yi Yj Yk Yl Ym Yn Yo Yp Yq Yr Ys Yt Yu Yv Yw Yx Yy Yz Z0 Z1 Z2 Z3 Z4 Z5 Z6 Z7 Z8 Z9 Za Zb Zc Zd Ze Zf Zg Zh Zi Zj Zk Zl Zm hgi I hn hbeg hF
  have hgl : gi < gs.length:=by omega
  have hlt : (gi : Int) < (gs.length : Int):=by omega
  have hdrop : gs.drop gi = gs[gi] :: gs.drop (gi + 1):=List.drop_eq_getElem_cons hgl
  have hcp:=hc1 gs[gi] (List.getElem_mem hgl)
  rw [hdrop] at hF hn
  simp only [Gi4] at hn
  simp only [Gh4] at hF
  have hg2 : Sl h 1 gv gs.length (nI gs):=hg.of_sid fun id b hid hb=>by rw [I.low id (hgq id hid)]; exact hb
  have rk : ∀ {G : Gag} {kd : IntKind} {w : Value} {xs : List Int},Rk kd hB w xs→(∀ id,sid w = some id→Q id)→(∀ id,Q id→blk? G id = blk? hB id)→hB.length≤G.length→Rk kd G w xs:=fun r hq hl hle=>r.keep hle fun id _ hs=>hl id (hq id hs)
  have hp2:=rk hp hpq I.low I.len
  obtain ⟨gid,goff,gb,egv,hgb,hgc⟩:=hg2.get hgl
  have hgd0 : gs.getD gi 0 = gs[gi]:=by rw [List.getD_eq_getElem?_getD,List.getElem?_eq_getElem hgl]; rfl
  have hgc0:=hgc 0 (by omega)
  rw [Nat.mul_one,Nat.add_zero,Nat.add_zero,Gpx hgl,hgd0] at hgc0
  generalize hcc : gs[gi] = cnt at *
  have hni : s.ls.length + cnt - 1 < ps.length:=by omega
  obtain ⟨pid,poff,pbk,epv,hpb,hpc⟩:=hp2.get hni
  have hpe : ps.getD (s.ls.length + cnt - 1) 0 = ps[s.ls.length + cnt - 1]:=by rw [List.getD_eq_getElem?_getD,List.getElem?_eq_getElem hni]; rfl
  have hp0:=hps ps[s.ls.length + cnt - 1] (List.getElem_mem hni)
  obtain ⟨e,he⟩:=Int.eq_ofNat_of_zero_le hp0
  have hze : zE ps (s.ls.length + cnt) = e:=by unfold zE; rw [if_neg (by omega),hpe,he]; rfl
  obtain ⟨z1,z2⟩:=hz s.ls.length (s.ls.length + cnt) (by omega) (by omega)
  rw [hze,← hbeg] at z1
  rw [hze] at z2
  rw [hpe,he,Int.toNat_natCast] at hF
  rw [he] at hpc
  have hvl:=I.vl
  obtain ⟨la,lc,hlv⟩:=I.ol.sl.shape
  obtain ⟨dv,D0,n0,v0,sz0,st0,iD,i19,iP,iS⟩:=I.dp
  have kk6:=I.kp X6 (.inr (.inl rfl))
  have kk11:=I.kp X11 (.inr (.inr (.inl rfl)))
  have kkp:=I.kp p (.inr (.inr (.inr (.inl rfl))))
  have hcl:=blk?_lt I.cb.blkc
  have lvlt : ∀ id,sid lv = some id→id < h.length:=fun id hid=>I.ol.lt hid
  generalize hH1 : h++[some (⟨false,[ifC d]⟩ : Blk)] = h1
  have l1 : h1.length = h.length + 1:=by rw [← hH1]; simp
  have k1 : ∀ id,id < h.length→blk? h1 id = blk? h id:=fun id hid=>by rw [← hH1]; exact blk?_push_lt hid
  have bk1 : blk? h1 h.length = some ⟨false,[ifC d]⟩:=by rw [← hH1]; exact blk?_push_eq
  have iD1 : DP h1 d pb dv D0 n0 s.a.p v0 sz0 st0:=iD.keep fun id hid=>k1 id (iD.own_lt hid)
  have low1 : ∀ id,Q id→blk? h1 id = blk? hB id:=fun id hid=>by rw [k1 id (I.kp id (.inl hid)).2.2,I.low id hid]
  have hd1:=rk hd hdq low1 (by have:=I.len; omega)
  obtain ⟨sv,es,hsl⟩:=seg_sl hd1 z1 z2
  have hDd : Dig (Gr0 ds beg e):=fun x hx=>hds x (List.mem_of_mem_take (List.mem_of_mem_drop hx))
  have hDl : (Gr0 ds beg e).length < 100000000:=by unfold Gr0; rw [List.length_drop,List.length_take]; omega
  have own_lt : ∀ id,Gf6 d pb dv id→id < h.length:=fun id hid=>iD.own_lt hid
  have mkRI : ∀ (h2 : Gag) (v : Value) (own : Nat→Prop) (s1 : Rdg),s1.b = s.b→s1.ls = s.ls→(∀ id,id < h.length→¬ Gf6 d pb dv id→blk? h2 id = blk? h id)→Sq h2 d pb v own s1.a s1.raw→blk? h2 h.length = some ⟨false,[v]⟩ →
    (∀ id,own id→Gf6 d pb dv id∨h1.length≤id)→(∀ xs q,s1.raw = some (xs,q)→q≤0)→h1.length≤h2.length→RI Q hB h2 X6 X11 p c d pb h.length pl pv dv0 m v own lv vs s1 0:=by
   intro h2 v own s1 eb el kK K b1 hf hcn l2
   have kO : ∀ id,KpO Q X6 X11 p vs id→blk? h2 id = blk? h id:=fun id hid=>kK id (I.kp id hid).2.2 (fun x=>(iS id x).1 hid)
   refine ⟨by rw [kO X6 (.inr (.inl rfl))]; exact I.b6,by rw [kO X11 (.inr (.inr (.inl rfl)))]; exact I.b11,⟨by rw [eb,kO p (.inr (.inr (.inr (.inl rfl))))]; exact I.cb.blkp,by rw [eb,kK c hcl (fun x=>(iS c x).2.1 rfl)]; exact I.cb.blkc,by rw [eb]; exact I.cb.ok⟩,by rw [eb]; exact I.good,K,b1,
    Gep I.ol fun id hid=>kK id (lvlt id hid) (fun x=>(iS id x).2.2 hid),by rw [el]; exact I.vl,fun i h1 h2=>?_,fun id hid=>?_,fun id hid=>?_,I.nl,hcn,fun id hid=>by rw [kO id (.inl hid)]; exact I.low id hid,by have:=I.len; omega,by rw [el]; exact I.small,⟨fun x=>by have:=(I.kp _ (.inl x)).2.2; omega,by have:=kk6.2.2; omega,by have:=kk11.2.2; omega,by have:=kkp.2.2; omega,fun w hw x=>by have:=(I.kp h.length (.inr (.inr (.inr (.inr ⟨w,hw,x⟩))))).2.2; omega⟩,I.cB⟩
   ·have e2 : s1.ls[i] = s.ls[i]'(by rw [← el]; exact h2):=by simp only [el]
    rw [e2]
    exact Gep (I.each i h1 (by rw [← el]; exact h2)) fun id hid=>kO id (.inr (.inr (.inr (.inr ⟨_,List.getElem_mem h1,hid⟩))))
   ·have old : KpO Q X6 X11 p vs id→¬ own id∧id ≠ c∧sid lv ≠ some id∧id < h2.length:=fun hid=>by
     obtain ⟨q1,q2,q3⟩:=I.kp id hid
     exact ⟨fun x=>(hf id x).elim (fun y=>(iS id y).1 hid) (fun y=>by omega),q1,q2,by omega⟩
    rcases hid with x | x | x | x | x | x
    ·exact old (.inl x)
    ·exact old (.inr (.inl x))
    ·exact old (.inr (.inr (.inl x)))
    ·exact old (.inr (.inr (.inr (.inl x))))
    ·subst x
     exact ⟨fun x=>(hf _ x).elim (fun y=>by have:=own_lt _ y; omega) (fun y=>by omega),by omega,fun x=>by have:=lvlt _ x; omega,by omega⟩
    ·exact old (.inr (.inr (.inr (.inr x))))
   ·rcases hf id hid with y | y
    ·exact (iS id y).2
    ·exact ⟨by omega,fun x=>by have:=lvlt _ x; omega⟩
  have hb62:=I.b6
  have hb112:=I.b11
  have e6 : blk? h1 X6 = some ⟨false,[.int .i64 pl,pv,dv0]⟩:=by rw [k1 X6 kk6.2.2]; exact I.b6
  have e11 : blk? h1 X11 = some ⟨false,[.bool m.byp,.bool m.res,.bool m.rst,.bool m.cz,.bool m.sy]⟩:=by rw [k1 X11 kk11.2.2]; exact I.b11
  have hraw:=fun H R=>Gxi (h:=H) (R:=R) (n:=s.ls.length) (by omega) m
  simp only [MD.val] at hraw
  have w1 : IntKind.i64.wrap ((s.ls.length : Int) + (cnt : Int)) = ((s.ls.length + cnt : Nat) : Int):=by rw [Gan (by omega) (by omega)]; omega
  have w2 : IntKind.i64.wrap (((s.ls.length + cnt : Nat) : Int) - 1) = ((s.ls.length + cnt - 1 : Nat) : Int):=by rw [Gan (by omega) (by omega)]; omega
  have w3 : IntKind.i64.wrap ((gi : Int) + 1) = ((gi + 1 : Nat) : Int):=Gbc (n:=gi + 1) (by omega)
  have hi1 : ((s.ls.length + cnt - 1 : Nat) : Int) < (ps.length : Int):=by omega
  have hi0 : (0 : Int)≤((s.ls.length + cnt - 1 : Nat) : Int):=by omega
  have hit : (((s.ls.length + cnt - 1 : Nat) : Int)).toNat = s.ls.length + cnt - 1:=Int.toNat_natCast _
  have behind : ∀ (h9 : Gag) (lv9 : Value) (vs9 : List Value) (s9 : Rdg) (K0 K1 K2 K3 K5 K7 K8 K9 Ka Kc Kd Ke Kg Kl Km Kn Ko Kp Kq Kr Ks Kt Ku Kv Kw Kx Ky Kz J0 J1 J2 J3 J4 J5 J6 J7 J8 J9 Ja Jb Jc Jg Jh Ji Jj Jk Jl Jm Jn Jo Jp Jq Jr Js Jt Ju Jv Jw Jx Jy Jz Y0 Y1 Y2 Y3 Y4 Y5 Y6 Y7 Y8 Y9 Ya Yb Yc Yd Ye Yf Yg Yh Yi Yj Yk Yl Ym Yn Yo Yp Yq Yr Ys Yt Yu Yv Yw Yx Yy Yz Z0 Z1 Z2 Z3 Z4 Z5 Z6 Z7 Z8 Z9 Za Zb Zc Zd Ze Zf Zg Zh Zi Zj Zk Zl Zm : Value),RO Q hB h9 X6 X11 p c d pb pl pv dv0 m lv9 vs9 s9→s9.ls.length = s.ls.length + cnt→Gh4 m pl o ps ds (gs.drop (gi + 1)) e s9 = sF →
    Ok tab R27 (.inBlock 1 :: .code (tlC 2 Gda) :: .inLoop Gtc :: .inBlock 0 :: k) #[K0,K1,K2,K3,.int .i64 o,K5,ptr X6,K7,K8,K9,Ka,ptr X11,Kc,Kd,Ke,ptr p,Kg,ptr d,lv9,.int .i64 s9.snd,.int .i64 (e : Nat),Kl,Km,Kn,Ko,Kp,Kq,Kr,Ks,Kt,Ku,Kv,Kw,Kx,Ky,Kz,J0,J1,J2,J3,J4,J5,J6,J7,J8,J9,Ja,Jb,Jc,gv,.int .i64 (gs.length : Nat),.int .i64 (gi : Nat),Jg,Jh,Ji,Jj,Jk,Jl,Jm,Jn,Jo,Jp,Jq,Jr,Js,Jt,Ju,Jv,Jw,Jx,Jy,Jz,Y0,Y1,Y2,Y3,Y4,Y5,Y6,Y7,Y8,Y9,Ya,Yb,Yc,Yd,Ye,Yf,Yg,Yh,Yi,Yj,Yk,Yl,Ym,Yn,Yo,Yp,Yq,Yr,Ys,Yt,Yu,Yv,Yw,Yx,Yy,Yz,Z0,Z1,Z2,Z3,Z4,Z5,Z6,Z7,Z8,Z9,Za,Zb,Zc,Zd,Ze,Zf,Zg,Zh,Zi,Zj,Zk,Zl,Zm] h9 R:=by
   intro h9 lv9 vs9 s9 K0 K1 K2 K3 K5 K7 K8 K9 Ka Kc Kd Ke Kg Kl Km Kn Ko Kp Kq Kr Ks Kt Ku Kv Kw Kx Ky Kz J0 J1 J2 J3 J4 J5 J6 J7 J8 J9 Ja Jb Jc Jg Jh Ji Jj Jk Jl Jm Jn Jo Jp Jq Jr Js Jt Ju Jv Jw Jx Jy Jz Y0 Y1 Y2 Y3 Y4 Y5 Y6 Y7 Y8 Y9 Ya Yb Yc Yd Ye Yf Yg Yh Yi Yj Yk Yl Ym Yn Yo Yp Yq Yr Ys Yt Yu Yv Yw Yx Yy Yz Z0 Z1 Z2 Z3 Z4 Z5 Z6 Z7 Z8 Z9 Za Zb Zc Zd Ze Zf Zg Zh Zi Zj Zk Zl Zm I9 hl9 hF9
   have ih':=fun K0 K1 K2 K3 K5 K7 K8 K9 Ka Kc Kd Ke Kg Kl Km Kn Ko Kp Kq Kr Ks Kt Ku Kv Kw Kx Ky Kz J0 J1 J2 J3 J4 J5 J6 J7 J8 J9 Ja Jb Jc Jg Jh Ji Jj Jk Jl Jm Jn Jo Jp Jq Jr Js Jt Ju Jv Jw Jx Jy Jz Y0 Y1 Y2 Y3 Y4 Y5 Y6 Y7 Y8 Y9 Ya Yb Yc Yd Ye Yf Yg Yh Yi Yj Yk Yl Ym Yn Yo Yp Yq Yr Ys Yt Yu Yv Yw Yx Yy Yz Z0 Z1 Z2 Z3 Z4 Z5 Z6 Z7 Z8 Z9 Za Zb Zc Zd Ze Zf Zg Zh Zi Zj Zk Zl Zm=>ih (gi + 1) h9 lv9 vs9 s9 e K0 K1 K2 K3 K5 K7 K8 K9 Ka Kc Kd Ke Kg Kl Km Kn Ko Kp Kq Kr Ks Kt Ku Kv Kw Kx Ky Kz J0 J1 J2 J3 J4 J5 J6 J7 J8 J9 Ja Jb Jc Jg Jh Ji Jj Jk Jl Jm Jn Jo Jp Jq Jr Js Jt Ju Jv Jw Jx Jy Jz Y0 Y1 Y2 Y3 Y4 Y5 Y6 Y7 Y8 Y9 Ya Yb Yc Yd Ye Yf Yg Yh Yi Yj Yk Yl Ym Yn Yo Yp Yq Yr Ys Yt Yu Yv Yw Yx Yy Yz Z0 Z1 Z2 Z3 Z4 Z5 Z6 Z7 Z8 Z9 Za Zb Zc Zd Ze Zf Zg Zh Zi Zj Zk Zl Zm (by omega) I9 (by omega) (by rw [hl9,hze]) hF9
   generalize ((gi + 1 : Nat) : Int) = gi1 at *
   simp only [Gau,tlC,Gd5,inB,Gda]
   simp [w3]
   exact ih' ..
  have go : ∀ (h2 : Gag) (v : Value) (own : Nat→Prop) (s1 : Rdg) (K0 K1 K2 K3 K5 K7 K8 K9 Ka Kc Kd Ke Kg Kl Kn Ko Kq Kr Ks Kt Ku Kv Kw Kx Ky Kz J0 J1 J2 J3 J4 J5 J6 J7 J8 J9 Ja Jb Jc Jg Jh Ji Jj Jk Jl Jm Jn Jo Jp Jq Jr Js Jt Ju Jv Jw Jx Jy Jz Y0 Y1 Y2 Y3 Y4 Y5 Y6 Y7 Y8 Y9 Ya Yb Yc Yd Ye Yf Yg Yh Yi Yj Yk Yl Ym Yn Yo Yp Yq Yr Ys Yt Yu Yv Yw Yx Yy Yz Z0 Z1 Z2 Z3 Z4 Z5 Z6 Z7 Z8 Z9 Za Zb Zc Zd Ze Zf Zg Zh Zi Zj Zk Zl Zm : Value),RI Q hB h2 X6 X11 p c d pb h.length pl pv dv0 m v own lv vs s1 0→s1.ls = s.ls→s1.snd = s.snd→Gh4 m pl o ps ds (gs.drop (gi + 1)) e (Gdm m pl o cnt s.ls.length s1) = sF →
    Ok tab R27 (.inLoop Gx5 :: .inBlock 2 :: .inBlock 1 :: .code (tlC 2 Gda) :: .inLoop Gtc :: .inBlock 0 :: k) #[K0,K1,K2,K3,.int .i64 o,K5,ptr X6,K7,K8,K9,Ka,ptr X11,Kc,Kd,Ke,ptr p,Kg,ptr d,lv,.int .i64 s.snd,.int .i64 (e : Nat),Kl,.int .i64 (cnt : Nat),Kn,Ko,ptr h.length,Kq,Kr,Ks,Kt,Ku,Kv,Kw,Kx,Ky,Kz,J0,J1,J2,J3,J4,J5,J6,J7,J8,J9,Ja,Jb,Jc,gv,.int .i64 (gs.length : Nat),.int .i64 (gi : Nat),Jg,Jh,Ji,Jj,Jk,Jl,Jm,Jn,Jo,Jp,Jq,Jr,Js,Jt,Ju,Jv,Jw,Jx,Jy,Jz,Y0,Y1,Y2,Y3,Y4,Y5,Y6,Y7,Y8,Y9,Ya,Yb,Yc,Yd,Ye,Yf,Yg,Yh,Yi,Yj,Yk,Yl,Ym,Yn,Yo,Yp,Yq,Yr,Ys,Yt,Yu,Yv,Yw,Yx,Yy,Yz,Z0,Z1,Z2,Z3,Z4,Z5,Z6,Z7,Z8,Z9,Za,Zb,Zc,Zd,Ze,Zf,Zg,Zh,Zi,Zj,Zk,Zl,Zm] h2 R:=by
   intro h2 v own s1 K0 K1 K2 K3 K5 K7 K8 K9 Ka Kc Kd Ke Kg Kl Kn Ko Kq Kr Ks Kt Ku Kv Kw Kx Ky Kz J0 J1 J2 J3 J4 J5 J6 J7 J8 J9 Ja Jb Jc Jg Jh Ji Jj Jk Jl Jm Jn Jo Jp Jq Jr Js Jt Ju Jv Jw Jx Jy Jz Y0 Y1 Y2 Y3 Y4 Y5 Y6 Y7 Y8 Y9 Ya Yb Yc Yd Ye Yf Yg Yh Yi Yj Yk Yl Ym Yn Yo Yp Yq Yr Ys Yt Yu Yv Yw Yx Yy Yz Z0 Z1 Z2 Z3 Z4 Z5 Z6 Z7 Z8 Z9 Za Zb Zc Zd Ze Zf Zg Zh Zi Zj Zk Zl Zm I2 el esn hF2
   have hlen : ∀ (q i : Nat) (s : Rdg),(Gdm m pl o q i s).ls.length = s.ls.length + q:=by
    intro q
    induction q with
    | zero=>intro i s; rfl
    | succ q ihq=>intro i s; simp only [Gdm]; rw [ihq]; simp; omega
   have hPL:=fun K0 K1 K2 K3 K5 K7 K8 K9 Ka Kc Kd Ke Kg Kl Kn Ko Kq Kr Ks Kt Ku Kv Kw Kx Ky Kz J0 J1 J2 J3 J4 J5 J6 J7 J8 J9 Ja Jb Jc Jg Jh Ji Jj Jk Jl Jm Jn Jo Jp Jq Jr Js Jt Ju Jv Jw Jx Jy Jz Y0 Y1 Y2 Y3 Y4 Y5 Y6 Y7 Y8 Y9 Ya Yb Yc Yd Ye Yf Yg Yh Yi Yj Yk Yl Ym Yn Yo Yp Yq Yr Ys Yt Yu Yv Yw Yx Yy Yz Z0 Z1 Z2 Z3 Z4 Z5 Z6 Z7 Z8 Z9 Za Zb Zc Zd Ze Zf Zg Zh Zi Zj Zk Zl Zm=>Gsm (k:=.inBlock 1 :: .code (tlC 2 Gda) :: .inLoop Gtc :: .inBlock 0 :: k) (o:=o) (v20:=.int .i64 (e : Nat)) (v49:=gv) (v50:=.int .i64 (gs.length : Nat)) (v51:=.int .i64 (gi : Nat)) (sF:=Gdm m pl o cnt s1.ls.length s1) (R:=R) (Q:=Q) (hB:=hB) (X6:=X6) (X11:=X11) (p:=p) (c:=c) (d:=d) (pb:=pb) (k1:=h.length) (pl:=pl) (pv:=pv) (dv0:=dv0) (m:=m)
    (fun h9 v9 own9 lv9 vs9 N9 K0 K1 K2 K3 K5 K7 K8 K9 Ka Kc Kd Ke Kg Kl Km Kn Ko Kp Kq Kr Ks Kt Ku Kv Kw Kx Ky Kz J0 J1 J2 J3 J4 J5 J6 J7 J8 J9 Ja Jb Jc Jg Jh Ji Jj Jk Jl Jm Jn Jo Jp Jq Jr Js Jt Ju Jv Jw Jx Jy Jz Y0 Y1 Y2 Y3 Y4 Y5 Y6 Y7 Y8 Y9 Ya Yb Yc Yd Ye Yf Yg Yh Yi Yj Yk Yl Ym Yn Yo Yp Yq Yr Ys Yt Yu Yv Yw Yx Yy Yz Z0 Z1 Z2 Z3 Z4 Z5 Z6 Z7 Z8 Z9 Za Zb Zc Zd Ze Zf Zg Zh Zi Zj Zk Zl Zm I9=>behind h9 lv9 vs9 _ _ _ _ _ _ _ _ _ _ _ _ _ _ _ _ _ _ _ _ _ _ _ _ _ _ _ _ _ _ _ _ _ _ _ _ _ _ _ _ _ _ _ _ _ _ _ _ _ _ _ _ _ _ _ _ _ _ _ _ _ _ _ _ _ _ _ _ _ _ _ _ _ _ _ _ _ _ _ _ _ _ _ _ _ _ _ _ _ _ _ _ _ _ _ _ _ _ _ _ _ _ _ _ _ _ _ _ _ _ _ _ _ _ _ _ _ _ _ _ _ I9.ro (by rw [hlen,el]) (by rw [el]; exact hF2))
    cnt h2 v own lv vs s1 0 K0 K1 K2 K3 K5 K7 K8 K9 Ka Kc Kd Ke Kg Kl Kn Ko Kq Kr Ks Kt Ku Kv Kw Kx Ky Kz J0 J1 J2 J3 J4 J5 J6 J7 J8 J9 Ja Jb Jc Jg Jh Ji Jj Jk Jl Jm Jn Jo Jp Jq Jr Js Jt Ju Jv Jw Jx Jy Jz Y0 Y1 Y2 Y3 Y4 Y5 Y6 Y7 Y8 Y9 Ya Yb Yc Yd Ye Yf Yg Yh Yi Yj Yk Yl Ym Yn Yo Yp Yq Yr Ys Yt Yu Yv Yw Yx Yy Yz Z0 Z1 Z2 Z3 Z4 Z5 Z6 Z7 Z8 Z9 Za Zb Zc Zd Ze Zf Zg Zh Zi Zj Zk Zl Zm I2 (by rw [el]; omega) (by omega) rfl
   rw [esn] at hPL
   exact hPL ..
  clear ih behind
  rw [hvl] at hlv
  rw [epv] at e6 hb62
  generalize hnc : ((s.ls.length + cnt : Nat) : Int) = nc at *
  generalize hnc1 : ((s.ls.length + cnt - 1 : Nat) : Int) = nc1 at *
  cases hrw : Gaw m s.ls.length with
  | true =>
   rw [hrw] at hF hraw
   simp only [if_true] at hF
   obtain ⟨hx,q',svv,eN,J,kx,lx,fo⟩:=Gth hsl hDd hDl
   have bkx : blk? hx h.length = some ⟨false,[ifC d]⟩:=by rw [kx _ (by omega)]; exact bk1
   have hkx:=blk?_lt bkx
   have I2:=mkRI (hx.set h.length (some ⟨false,[ifW q']⟩)) (ifW q') (fun id=>Gf6 d pb dv id∨Gvt q' svv id) { s with raw:=some (Gr0 ds beg e,0) } rfl rfl
    (fun id h3 h4=>by rw [blk?_set_ne (by omega),kx id (by omega),k1 id h3])
    (.raw (iD.keep fun id hid=>by have:=own_lt id hid; rw [blk?_set_ne (by omega),kx id (by omega),k1 id this]) i19 iP (J.keep fun id hid=>by have:=fo id hid; rw [blk?_set_ne (by omega)]) (fun id h3 h4=>by have:=own_lt id h3; have:=fo id h4; omega))
    (blk?_set_eq hkx) (fun id hid=>hid.elim .inl fun y=>.inr (fo id y)) (fun xs qq hq=>by simp only [Option.some.injEq,Prod.mk.injEq] at hq; omega) (by rw [List.length_set]; exact lx)
   have go':=fun K0 K1 K2 K3 K5 K7 K8 K9 Ka Kc Kd Ke Kg Kl Kn Ko Kq Kr Ks Kt Ku Kv Kw Kx Ky Kz J0 J1 J2 J3 J4 J5 J6 J7 J8 J9 Ja Jb Jc Jg Jh Ji Jj Jk Jl Jm Jn Jo Jp Jq Jr Js Jt Ju Jv Jw Jx Jy Jz Y0 Y1 Y2 Y3 Y4 Y5 Y6 Y7 Y8 Y9 Ya Yb Yc Yd Ye Yf Yg Yh Yi Yj Yk Yl Ym Yn Yo Yp Yq Yr Ys Yt Yu Yv Yw Yx Yy Yz Z0 Z1 Z2 Z3 Z4 Z5 Z6 Z7 Z8 Z9 Za Zb Zc Zd Ze Zf Zg Zh Zi Zj Zk Zl Zm=>go _ _ _ _ K0 K1 K2 K3 K5 K7 K8 K9 Ka Kc Kd Ke Kg Kl Kn Ko Kq Kr Ks Kt Ku Kv Kw Kx Ky Kz J0 J1 J2 J3 J4 J5 J6 J7 J8 J9 Ja Jb Jc Jg Jh Ji Jj Jk Jl Jm Jn Jo Jp Jq Jr Js Jt Ju Jv Jw Jx Jy Jz Y0 Y1 Y2 Y3 Y4 Y5 Y6 Y7 Y8 Y9 Ya Yb Yc Yd Ye Yf Yg Yh Yi Yj Yk Yl Ym Yn Yo Yp Yq Yr Ys Yt Yu Yv Yw Yx Yy Yz Z0 Z1 Z2 Z3 Z4 Z5 Z6 Z7 Z8 Z9 Za Zb Zc Zd Ze Zf Zg Zh Zi Zj Zk Zl Zm I2 rfl rfl hF
   clear go
   rw [egv] at go' ⊢
   rw [hlv] at go' ⊢
   rw [Gad,G9r,Gqt,show Gda = .seq (Gau 0 Gda) (.seq (Gau 1 Gda) (tlC 2 Gda)) from rfl]
   generalize tlC 2 Gda = tl2 at *
   simp only [Gau,tlC,Gd5,inB,Gda]
   simp [hlt,hgb,hgc0,hb62,w1,w2,hi1,hi0,hit,hpb,hpc,hH1,blk?_push_eq,e11,hraw,e6,es,eN,bkx]
   exact go' ..
  | false =>
   rw [hrw] at hF hraw
   simp only [Bool.false_eq_true,if_false] at hF
   obtain ⟨hx,dv',n',eS,Ix,hdr,Fx⟩:=G5i iD1 (by omega) hsl hDd hDl
   have lx:=Fx.len
   have hlen' : ∀ id,Gf6 d pb dv' id→Gf6 d pb dv id∨h1.length≤id:=fun id hid=>by
    rcases hid with hid | hid | hid
    ·exact .inl (.inl hid)
    ·exact .inl (.inr (.inl hid))
    ·rcases Fx.fresh id hid with y | y
     ·exact .inl (.inr (.inr y))
     ·exact .inr y.1
   have kx : ∀ id,id < h1.length→¬ Gf6 d pb dv id→blk? hx id = blk? h1 id:=fun id h3 h4=>Fx.same id h3 (fun y=>h4 (.inl y)) (fun y=>h4 (.inr (.inl y))) (fun y=>h4 (.inr (.inr y)))
   have bkx : blk? hx h.length = some ⟨false,[ifC d]⟩:=by rw [kx _ (by omega) (fun y=>by have:=own_lt _ y; omega)]; exact bk1
   have I2:=mkRI hx (ifC d) (Gf6 d pb dv') { s with a:=AD.start s.a.p (Gr0 ds beg e),raw:=none } rfl rfl
    (fun id h3 h4=>by rw [kx id (by omega) h4,k1 id h3])
    (.cod (a:=AD.start s.a.p (Gr0 ds beg e)) ⟨Ix,hdr,AD.start_ok iP hDd,by simp only [AD.start]; omega⟩ i19 hDd hDl) bkx hlen' (fun xs qq hq=>by cases hq) lx
   have go':=fun K0 K1 K2 K3 K5 K7 K8 K9 Ka Kc Kd Ke Kg Kl Kn Ko Kq Kr Ks Kt Ku Kv Kw Kx Ky Kz J0 J1 J2 J3 J4 J5 J6 J7 J8 J9 Ja Jb Jc Jg Jh Ji Jj Jk Jl Jm Jn Jo Jp Jq Jr Js Jt Ju Jv Jw Jx Jy Jz Y0 Y1 Y2 Y3 Y4 Y5 Y6 Y7 Y8 Y9 Ya Yb Yc Yd Ye Yf Yg Yh Yi Yj Yk Yl Ym Yn Yo Yp Yq Yr Ys Yt Yu Yv Yw Yx Yy Yz Z0 Z1 Z2 Z3 Z4 Z5 Z6 Z7 Z8 Z9 Za Zb Zc Zd Ze Zf Zg Zh Zi Zj Zk Zl Zm=>go _ _ _ _ K0 K1 K2 K3 K5 K7 K8 K9 Ka Kc Kd Ke Kg Kl Kn Ko Kq Kr Ks Kt Ku Kv Kw Kx Ky Kz J0 J1 J2 J3 J4 J5 J6 J7 J8 J9 Ja Jb Jc Jg Jh Ji Jj Jk Jl Jm Jn Jo Jp Jq Jr Js Jt Ju Jv Jw Jx Jy Jz Y0 Y1 Y2 Y3 Y4 Y5 Y6 Y7 Y8 Y9 Ya Yb Yc Yd Ye Yf Yg Yh Yi Yj Yk Yl Ym Yn Yo Yp Yq Yr Ys Yt Yu Yv Yw Yx Yy Yz Z0 Z1 Z2 Z3 Z4 Z5 Z6 Z7 Z8 Z9 Za Zb Zc Zd Ze Zf Zg Zh Zi Zj Zk Zl Zm I2 rfl rfl hF
   clear go
   rw [egv] at go' ⊢
   rw [hlv] at go' ⊢
   rw [Gad,G9r,Gqt,show Gda = .seq (Gau 0 Gda) (.seq (Gau 1 Gda) (tlC 2 Gda)) from rfl]
   generalize tlC 2 Gda = tl2 at *
   simp only [Gau,tlC,Gd5,inB,Gda]
   simp [hlt,hgb,hgc0,hb62,w1,w2,hi1,hi0,hit,hpb,hpc,hH1,blk?_push_eq,e11,hraw,e6,es,eS]
   exact go' ..
end
def Geu (m : MD) (pl o : Int) (ps : List Int) (ds : List Nat) (n w hh : Nat) : Rdg:=Gh4 m pl o ps ds (Gba m n) 0 ⟨⟨AE.base 19,[],0,0⟩,none,Gcb w hh,(n : Int),[]⟩
structure RdV (B : Nat) (h : Gag) (lv : Value) (ls : List (List (Int × Nat))) : Prop where
 ex : ∃ vs,Ga7 h 1 lv vs.length vs∧vs.length = ls.length∧(∀ i (h1 : i < vs.length) (h2 : i < ls.length),Ga7 h 2 vs[i] ls[i].length (Ggt ls[i]))∧∀ l ∈ ls,l.length≤20000
section
variable {R : RP} {h : Gag}
theorem read_c {pv dv0 : Value} {pl o : Int} {ps : List Int} {ds : List Nat} {n w hh : Nat} (m : MD) (hp : Rk .i64 h pv ps) (hd : Rk .u8 h dv0 (ds.map Int.ofNat)) (hps : ∀ x ∈ ps,0≤x) (hz : ∀ i j,i≤j→j≤ps.length→zE ps i≤zE ps j∧zE ps j≤ds.length)
  (hdl : ds.length < 100000000) (hds : ∀ x ∈ ds,x < 256) (hpl : ps.length≤178) (hn : n≤ps.length) (w1 : 1≤w) (w2 : w≤64) (h1 : 1≤hh) (h2 : hh≤64) :
  ∃ lv h',(∀ R : RP,Ret tab 27 [.agg #[.int .i64 pl,pv,dv0],.int .i64 (n : Nat),.int .i64 (w : Nat),.int .i64 (hh : Nat),.int .i64 o,m.val] h R = R (.tuple #[lv,.int .i64 (Geu m pl o ps ds n w hh).snd,.int .i64 0]) h') ∧
   RdV h.length h' lv (Geu m pl o ps ds n w hh).ls∧(∀ id,id < h.length→blk? h' id = blk? h id)∧h.length≤h'.length:=by
 have key : ∀ R0 : RP,(∀ lv h',RdV h.length h' lv (Geu m pl o ps ds n w hh).ls→(∀ id,id < h.length→blk? h' id = blk? h id)→h.length≤h'.length→R0 (.tuple #[lv,.int .i64 (Geu m pl o ps ds n w hh).snd,.int .i64 0]) h') →
   Ret tab 27 [.agg #[.int .i64 pl,pv,dv0],.int .i64 (n : Nat),.int .i64 (w : Nat),.int .i64 (hh : Nat),.int .i64 o,m.val] h R0:=by
  intro R0 hR
  generalize hH : h++[some (⟨false,[.int .i64 pl,pv,dv0]⟩ : Blk),some ⟨false,[.bool m.byp,.bool m.res,.bool m.rst,.bool m.cz,.bool m.sy]⟩] = H
  have lH : H.length = h.length + 2:=by rw [← hH]; simp
  have kH : ∀ id,id < h.length→blk? H id = blk? h id:=fun id hid=>by rw [← hH]; exact Gbf hid
  have b6 : blk? H h.length = some ⟨false,[.int .i64 pl,pv,dv0]⟩:=by rw [← hH,Gbe]; rfl
  have b11 : blk? H (h.length + 1) = some ⟨false,[.bool m.byp,.bool m.res,.bool m.rst,.bool m.cz,.bool m.sy]⟩:=by rw [← hH,Ga0]; rfl
  have e1:=fun R=>Qbi (h:=H) (R:=R) w1 w2 h1 h2
  have cb1:=Gib H w1 w2 h1 h2
  have k1:=Gee H w hh
  have l1:=Gg1 H w hh
  generalize Gdc H w hh = H1 at *
  obtain ⟨H2,d,pb,e2,iD,hdB,hpB,l2,k2⟩:=G6l (h:=H1) (m:=19) (by omega) (by omega)
  obtain ⟨H3,gv,e3,og,k3,l3,gB⟩:=G7p (h:=H2) n m (by omega)
  obtain ⟨sg1,sg2,sg3⟩:=Ggh (m:=m) (n:=n) (by omega)
  have k13 : ∀ id,id < H1.length→blk? H3 id = blk? H1 id:=fun id hid=>by rw [k3 id (by omega),k2 id hid]
  have kH3 : ∀ id,id < H.length→blk? H3 id = blk? H id:=fun id hid=>by rw [k13 id (by omega),k1 id hid]
  have kh3 : ∀ id,id < h.length→blk? H3 id = blk? h id:=fun id hid=>by rw [kH3 id (by omega),kH id hid]
  obtain ⟨ga,gc,hgv⟩:=og.sl.shape
  have iD3 : DP H3 d pb (.slice none 0 0) [] 0 (AE.base 19) 0 0 false:=iD.keep fun id hid=>k3 id (iD.own_lt hid)
  have oE : ∀ id,Gf6 d pb (.slice none 0 0) id→H1.length≤id∧id < H2.length:=fun id hid=>by
   have:=iD.own_lt hid
   rcases hid with rfl | rfl | hid
   ·exact ⟨hdB,this⟩
   ·exact ⟨hpB,this⟩
   ·simp [sid] at hid
  have gl : ∀ id,sid gv = some id→H2.length≤id∧id < H3.length:=fun id hid=>⟨gB id hid,og.lt hid⟩
  have hp3 : Rk .i64 H3 pv ps:=hp.keep (by omega) fun id hid _=>kh3 id hid
  have hd3 : Rk .u8 H3 dv0 (ds.map Int.ofNat):=hd.keep (by omega) fun id hid _=>kh3 id hid
  have I0 : RO (fun id=>id < h.length∨sid gv = some id) H3 H3 h.length (h.length + 1) (H.length + 1) H.length d pb pl pv dv0 m (.slice none 0 0) [] ⟨⟨AE.base 19,[],0,0⟩,none,Gcb w hh,(n : Int),[]⟩:=by
   refine ⟨by rw [kH3 _ (by omega)]; exact b6,by rw [kH3 _ (by omega)]; exact b11,⟨by rw [k13 _ (by omega)]; exact cb1.blkp,by rw [k13 _ (by omega)]; exact cb1.blkc,cb1.ok⟩,Gcc w1 w2 h1 h2,⟨_,_,_,_,_,_,iD3,by simp [AE.base],Gfw 19,fun id hid=>⟨?_,?_,by simp [sid]⟩⟩,Ga7.nil _ _,rfl,fun i h1 _=>by simp at h1,fun id hid=>⟨?_,by simp [sid],?_⟩,by simp [sid],fun _ _=>rfl,Nat.le_refl _,fun l hl=>(by cases hl),⟨?_,by omega,by omega⟩⟩
   ·have:=oE id hid
    rintro ((x | x) | x | x | x | ⟨w,hw,_⟩)
    ·omega
    ·have:=gl id x; omega
    ·omega
    ·omega
    ·omega
    ·cases hw
   ·have:=oE id hid; omega
   ·rcases hid with (x | x) | x | x | x | ⟨w,hw,_⟩
    ·omega
    ·have:=gl id x; omega
    ·omega
    ·omega
    ·omega
    ·cases hw
   ·rcases hid with (x | x) | x | x | x | ⟨w,hw,_⟩
    ·omega
    ·exact (gl id x).2
    ·omega
    ·omega
    ·omega
    ·cases hw
   ·rintro (x | x)
    ·omega
    ·have:=gl _ x; omega
  have hL:=fun K0 K1 K2 K3 K5 K7 K8 K9 Ka Kc Kd Ke Kg Kl Km Kn Ko Kp Kq Kr Ks Kt Ku Kv Kw Kx Ky Kz J0 J1 J2 J3 J4 J5 J6 J7 J8 J9 Ja Jb Jc Jg Jh Ji Jj Jk Jl Jm Jn Jo Jp Jq Jr Js Jt Ju Jv Jw Jx Jy Jz Y0 Y1 Y2 Y3 Y4 Y5 Y6 Y7 Y8 Y9 Ya Yb Yc Yd Ye Yf Yg Yh Yi Yj Yk Yl Ym Yn Yo Yp Yq Yr Ys Yt Yu Yv Yw Yx Yy Yz Z0 Z1 Z2 Z3 Z4 Z5 Z6 Z7 Z8 Z9 Za Zb Zc Zd Ze Zf Zg Zh Zi Zj Zk Zl Zm=>Gxl (R:=R0) (k:=[.code (tlC 8 B27)]) (o:=o) (sF:=Geu m pl o ps ds n w hh) (Q:=fun id=>id < h.length∨sid gv = some id) (hB:=H3) og.sl (fun id hid=>.inr hid) hp3 (fun id hid=>.inl (hp.lt hid)) hd3 (fun id hid=>.inl (hd.lt hid))
   (fun x hx=>(sg3 x hx).1) hps hz hdl hds hpl (by omega)
   (fun h9 lv vs K0 K1 K2 K3 K4 K5 K6 K7 K8 K9 Ka Kb Kc Kd Ke Kf Kg Kh Kk Kl Km Kn Ko Kp Kq Kr Ks Kt Ku Kv Kw Kx Ky Kz J0 J1 J2 J3 J4 J5 J6 J7 J8 J9 Ja Jb Jc Jd Je Jf Jg Jh Ji Jj Jk Jl Jm Jn Jo Jp Jq Jr Js Jt Ju Jv Jw Jx Jy Jz Y0 Y1 Y2 Y3 Y4 Y5 Y6 Y7 Y8 Y9 Ya Yb Yc Yd Ye Yf Yg Yh Yi Yj Yk Yl Ym Yn Yo Yp Yq Yr Ys Yt Yu Yv Yw Yx Yy Yz Z0 Z1 Z2 Z3 Z4 Z5 Z6 Z7 Z8 Z9 Za Zb Zc Zd Ze Zf Zg Zh Zi Zj Zk Zl Zm I9=>by
    obtain ⟨ta,tc,ht⟩:=I9.ol.sl.shape
    have hR':=hR lv h9 ⟨⟨vs,I9.ol,I9.vl,I9.each,I9.small⟩⟩ (fun id hid=>by rw [I9.low id (.inl hid),kh3 id hid]) (by have:=I9.len; omega)
    simp only [Gau,tlC,Gd5,B27]
    simp [fin27]
    exact hR')
   (Gba m n).length 0 H3 (.slice none 0 0) [] _ 0 K0 K1 K2 K3 K5 K7 K8 K9 Ka Kc Kd Ke Kg Kl Km Kn Ko Kp Kq Kr Ks Kt Ku Kv Kw Kx Ky Kz J0 J1 J2 J3 J4 J5 J6 J7 J8 J9 Ja Jb Jc Jg Jh Ji Jj Jk Jl Jm Jn Jo Jp Jq Jr Js Jt Ju Jv Jw Jx Jy Jz Y0 Y1 Y2 Y3 Y4 Y5 Y6 Y7 Y8 Y9 Ya Yb Yc Yd Ye Yf Yg Yh Yi Yj Yk Yl Ym Yn Yo Yp Yq Yr Ys Yt Yu Yv Yw Yx Yy Yz Z0 Z1 Z2 Z3 Z4 Z5 Z6 Z7 Z8 Z9 Za Zb Zc Zd Ze Zf Zg Zh Zi Zj Zk Zl Zm (by omega) I0 (by rw [List.drop_zero]; simp; omega) (by simp [zE]) (by rw [List.drop_zero]; rfl)
  have b112 : blk? H2 (h.length + 1) = some ⟨false,[.bool m.byp,.bool m.res,.bool m.rst,.bool m.cz,.bool m.sy]⟩:=by rw [k2 _ (by omega),k1 _ (by omega)]; exact b11
  simp only [MD.val,Int.cast_ofNat_Int] at e2 e3 hL
  rw [hgv] at e3 hL
  generalize (Gba m n).length = gl at *
  rw [Qb0,show B27 = .seq (Gau 0 B27) (.seq (Gau 1 B27) (.seq (Gau 2 B27) (.seq (Gau 3 B27) (.seq (Gau 4 B27) (.seq (Gau 5 B27) (.seq (Gau 6 B27) (.seq (Gau 7 B27) (tlC 8 B27)))))))) from rfl]
  generalize tlC 8 B27 = tl at *
  simp only [Gau,tlC,Gd5,B27]
  simp [MD.val,hH,e1,e2,b112,e3]
  exact hL ..
 obtain ⟨v,h',e,lv,rfl,a,b,c⟩:=Gck (key (fun v h'=>∃ lv,v = .tuple #[lv,.int .i64 (Geu m pl o ps ds n w hh).snd,.int .i64 0]∧RdV h.length h' lv (Geu m pl o ps ds n w hh).ls∧(∀ id,id < h.length→blk? h' id = blk? h id)∧h.length≤h'.length) fun lv h' a b c=>⟨lv,rfl,a,b,c⟩)
 exact ⟨lv,h',e,a,b,c⟩
end
structure CI (B : Nat) (h : Gag) (v : Value) (pl : Int) (ps ds : List Int) : Prop where
 ex : ∃ pv dv,v = .agg #[.int .i64 pl,pv,dv]∧Rk .i64 h pv ps∧Rk .u8 h dv ds∧(∀ id,sid pv = some id→B≤id)∧(∀ id,sid dv = some id→B≤id)
theorem Gkg : ∀ (ps : List Int) (l r : Int),vgo ps l = some r→∀ i,i < ps.length→l≤ps.getD i 0∧ps.getD i 0≤r
 | [],_,_,_,i,h=>by simp at h
 | x :: xs,l,r,hv,i,h=>by
  unfold vgo at hv
  split at hv
  ·cases hv
  ·rename_i hx
   cases i with
   | zero =>
    refine ⟨by simp; omega,?_⟩
    cases xs with
    | nil=>simp [vgo] at hv; simp; omega
    | cons y ys=>have:=Gkg (y :: ys) x r hv 0 (by simp); simp at this ⊢; omega
   | succ i =>
    have:=Gkg xs x r hv i (by simpa using h)
    simp only [List.getD_cons_succ]; omega
theorem Ge7 {pl : Int} {ps ds : List Int} (h : Gex pl ps ds = 0) : 0≤pl∧pl≤60∧((ps.length : Int)≤max 0 (3 * pl - 2))∧vgo ps 0 = some (ds.length : Int)∧ds.length≤65535:=by
 unfold Gex at h
 split at h
 ·cases h
 ·split at h
  ·cases h
  ·split at h
   ·cases h
   ·rename_i l hl
    split at h
    ·cases h
    ·rename_i h4
     split at h
     ·cases h
     ·rw [hl]; simp only [ne_eq,Decidable.not_not] at h4; subst h4; refine ⟨by omega,by omega,by omega,rfl,by omega⟩
section
variable {h : Gag} {R : RP} {k : List Ga1} {pv dv pv' dv' : Value} {pl pl' : Int} {ps ps' ds ds' : List Int} {m : MD}
end
end Go.Proofs.YtjpjohchdfoeaaaGreat
