/-
  DistortAdds: the walk.
-/
import Derived.Test.YtjpjohchdfoeaaaRet
namespace Go.Proofs.Ytjpjohchdfoeaaa
open Go Go.Sim
set_option linter.unusedSimpArgs false
set_option linter.unusedVariables false
set_option maxRecDepth 100000

/-! ### Sums -/
def sumN (f : Nat → Int) : Nat → Int
  | 0 => 0
  | n + 1 => sumN f n + f n
def sq (a b : Int) (cs vs ms : List Int) (i : Nat) : Int := errI (cs.getD i 0) (vs.getD i 0) (ms.getD i 0) a b * errI (cs.getD i 0) (vs.getD i 0) (ms.getD i 0) a b
theorem tot_sum (a b : Int) (cs vs ms : List Int) : ∀ n, tot a b cs vs ms n = sumN (sq a b cs vs ms) n
  | 0 => rfl
  | n + 1 => by rw [tot, sumN, tot_sum a b cs vs ms n]; rfl
theorem sumN_congr {f g : Nat → Int} : ∀ n, (∀ i, i < n → f i = g i) → sumN f n = sumN g n
  | 0, _ => rfl
  | n + 1, h => by rw [sumN, sumN, sumN_congr n (fun i hi => h i (by omega)), h n (by omega)]
theorem sumN_add (f : Nat → Int) (k : Nat) : ∀ m, sumN f (k + m) = sumN f k + sumN (fun i => f (k + i)) m
  | 0 => by simp [sumN]
  | m + 1 => by rw [← Nat.add_assoc, sumN, sumN, sumN_add f k m]; omega
theorem sumN_rev (f : Nat → Int) : ∀ n, sumN (fun i => f (n - 1 - i)) n = sumN f n
  | 0 => rfl
  | n + 1 => by
    have h1 := sumN_add (fun i => f (n + 1 - 1 - i)) 1 n
    rw [Nat.add_comm 1 n] at h1
    have h2 : sumN f (n + 1) = sumN f n + f n := rfl
    rw [h1, h2, ← sumN_rev f n]
    simp only [sumN]
    have : sumN (fun i => f (n + 1 - 1 - (1 + i))) n = sumN (fun i => f (n - 1 - i)) n := sumN_congr n (fun i hi => by congr 1; omega)
    rw [this]
    simp only [Nat.add_sub_cancel, Nat.sub_zero]
    omega
theorem getD_rev {xs : List Int} {i : Nat} (h : i < xs.length) : xs.reverse.getD i 0 = xs.getD (xs.length - 1 - i) 0 := by
  rw [List.getD_eq_getElem?_getD, List.getD_eq_getElem?_getD, List.getElem?_reverse h]
theorem tot_rev {a b : Int} {cs vs ms : List Int} (h1 : cs.length = vs.length) (h2 : cs.length = ms.length) : tot a b cs.reverse vs.reverse ms.reverse cs.length = tot a b cs vs ms cs.length := by
  rw [tot_sum, tot_sum, ← sumN_rev]
  refine sumN_congr _ fun i hi => ?_
  unfold sq
  rw [getD_rev (show cs.length - 1 - i < cs.length by omega), getD_rev (show cs.length - 1 - i < vs.length by omega), getD_rev (show cs.length - 1 - i < ms.length by omega), ← h1, ← h2, show cs.length - 1 - (cs.length - 1 - i) = i by omega]
theorem getD_take {xs : List Int} {i k : Nat} (h : i < k) : (xs.take k).getD i 0 = xs.getD i 0 := by
  rw [List.getD_eq_getElem?_getD, List.getD_eq_getElem?_getD, List.getElem?_take, if_pos h]
theorem getD_drop {xs : List Int} {i k : Nat} : (xs.drop k).getD i 0 = xs.getD (k + i) 0 := by
  rw [List.getD_eq_getElem?_getD, List.getD_eq_getElem?_getD, List.getElem?_drop]
theorem tot_parts {a b : Int} {cs vs ms : List Int} {k : Nat} (hk : k ≤ cs.length) :
    tot a b (cs.take k) (vs.take k) (ms.take k) k + tot a b (cs.drop k) (vs.drop k) (ms.drop k) (cs.length - k) = tot a b cs vs ms cs.length := by
  rw [tot_sum, tot_sum, tot_sum]
  have e := sumN_add (sq a b cs vs ms) k (cs.length - k)
  rw [show k + (cs.length - k) = cs.length by omega] at e
  rw [e]
  congr 1
  · refine sumN_congr _ fun i hi => ?_
    unfold sq
    rw [getD_take hi, getD_take hi, getD_take hi]
  · refine sumN_congr _ fun i hi => ?_
    unfold sq
    rw [getD_drop, getD_drop, getD_drop]
theorem totRes_ok {a b w : Int} {cs vs ms : List Int} (h1 : cs.length = vs.length) (h2 : cs.length = ms.length) (hn : cs.length ≤ 200) (hq : QOk a b) (hm : ms.all mOk = true) (hw0 : 0 ≤ w) (hw1 : w ≤ 16) :
    totRes a b w cs vs ms = (tot a b cs vs ms cs.length * w, 0) := by
  unfold totRes
  rw [if_neg (by omega), if_neg (by omega), if_neg (by intro hx; rcases hx with hx | hx | hx; exact hx hq; omega; omega), if_pos hm]

/-! ### The lists turned round -/
theorem app1 {H : Heap} {s : Value} {i : Nat} {xs : List Int} {v : Int} (ho : OwnS H 1 s i (kis .i64 xs)) (hi : i ≤ 200) :
    ∃ H1, appendV (H ++ [some ⟨false, [.int .i64 v]⟩]) 1 8 s (.slice (some ⟨H.length, 0, none⟩) 1 1) = some (.slice (some ⟨H.length + 1, 0, none⟩) (i + 1) 1, H1) ∧
      OwnS H1 1 (.slice (some ⟨H.length + 1, 0, none⟩) (i + 1) 1) (i + 1) (kis .i64 (xs ++ [v])) ∧ H1.length = H.length + 2 ∧ ∀ id, id < H.length → sid s ≠ some id → blk? H1 id = blk? H id := by
  have ho' : OwnS (H ++ [some ⟨false, [.int .i64 v]⟩]) 1 s i (kis .i64 xs) := ho.of_blk fun id hid hb => by rw [blk?_push_lt (blk?_lt hb)]; exact hb
  have ht : Sl (H ++ [some ⟨false, [.int .i64 v]⟩]) 1 (.slice (some ⟨H.length, 0, none⟩) 1 1) 1 [.int .i64 v] := ⟨rfl, .inr ⟨H.length, 0, rfl, .inr ⟨_, blk?_push_eq, by simp, by simp⟩⟩⟩
  obtain ⟨H1, e, hb, hl, hk⟩ := own_append ho' ht (bytes := 8) (by unfold roomCells; omega) (by omega) (by omega)
  have hlen : (H ++ [some (⟨false, [.int .i64 v]⟩ : Blk)]).length = H.length + 1 := by simp
  rw [hlen] at e hb hl hk
  have hx := ho.1
  refine ⟨H1, e, ⟨by simp [kis] at hx ⊢; omega, .inr ⟨_, rfl, by rw [hb]; simp [kis]⟩⟩, hl, fun id hid hne => ?_⟩
  rw [hk id (by omega) hne, blk?_push_lt hid]

structure A3 (h H : Heap) (s t u : Value) (a b : Int) (xs ys zs : List Int) (s' t' u' : Value) : Prop where
  p0 : blk? H h.length = some ⟨false, [s, t, u]⟩
  p1 : blk? H (h.length + 1) = some ⟨false, [.int .i64 a, .int .i64 b]⟩
  p2 : blk? H (h.length + 2) = some ⟨false, [s', t', u']⟩
  o1 : OwnS H 1 s' xs.length (kis .i64 xs)
  o2 : OwnS H 1 t' ys.length (kis .i64 ys)
  o3 : OwnS H 1 u' zs.length (kis .i64 zs)
  g1 : ∀ j, sid s' = some j → h.length + 2 < j
  g2 : ∀ j, sid t' = some j → h.length + 2 < j
  g3 : ∀ j, sid u' = some j → h.length + 2 < j
  d12 : ∀ j, sid s' = some j → sid t' ≠ some j
  d13 : ∀ j, sid s' = some j → sid u' ≠ some j
  d23 : ∀ j, sid t' = some j → sid u' ≠ some j
  low : ∀ id, id < h.length → blk? H id = blk? h id
  len : h.length + 3 ≤ H.length
abbrev AInv (h H : Heap) (s t u : Value) (a b : Int) (cs vs ms : List Int) (i : Nat) (s' t' u' : Value) : Prop := A3 h H s t u a b (cs.reverse.take i) (vs.reverse.take i) (ms.reverse.take i) s' t' u'

theorem rev_take {xs : List Int} {i : Nat} (h : i < xs.length) : xs.reverse.take (i + 1) = xs.reverse.take i ++ [xs[xs.length - 1 - i]] := by
  rw [List.take_add_one]
  congr 1
  rw [List.getElem?_reverse h, List.getElem?_eq_getElem (by omega)]; rfl

theorem own_set {H : Heap} {s : Value} {i p : Nat} {xs : List Value} {x : Option Blk} (ho : OwnS H 1 s i xs) (hp : sid s ≠ some p) : OwnS (H.set p x) 1 s i xs :=
  ho.of_blk fun id hid hb => by rw [blk?_set_ne (fun e => hp (by rw [e]; exact hid))]; exact hb

theorem astep1 {h H : Heap} {s t u s' t' u' : Value} {a b v : Int} {xs ys zs : List Int} (I : A3 h H s t u a b xs ys zs s' t' u') (hx : xs.length ≤ 200) :
    ∃ r H1 H2, appendV (H ++ [some ⟨false, [.int .i64 v]⟩]) 1 8 s' (.slice (some ⟨H.length, 0, none⟩) 1 1) = some (r, H1) ∧ blk? H1 (h.length + 2) = some ⟨false, [s', t', u']⟩ ∧ r.cells = #[r] ∧ Sim.isVar r = true ∧
      H1.set (h.length + 2) (some ⟨false, [r, t', u']⟩) = H2 ∧ A3 h H2 s t u a b (xs ++ [v]) ys zs r t' u' := by
  obtain ⟨H1, e, o, l, k⟩ := app1 (v := v) I.o1 hx
  have hlen := I.len
  have n0 : ∀ id, id ≤ h.length + 2 → sid s' ≠ some id := fun id hid he => by have := I.g1 id he; omega
  have b2 : blk? H1 (h.length + 2) = some ⟨false, [s', t', u']⟩ := by rw [k _ (by omega) (n0 _ (by omega))]; exact I.p2
  refine ⟨_, H1, _, e, b2, rfl, rfl, rfl, ?_⟩
  have hne : ∀ j, (sid (.slice (some ⟨H.length + 1, 0, none⟩) (xs.length + 1) 1) = some j) → j = H.length + 1 := fun j hj => by simp [sid] at hj; exact hj.symm
  have lt : ∀ {q : Value} {m : Nat} {w : List Int}, OwnS H 1 q m (kis .i64 w) → ∀ j, sid q = some j → j < H.length := fun hq j hj => hq.lt hj
  have keep : ∀ {q : Value} {m : Nat} {w : List Int}, OwnS H 1 q m (kis .i64 w) → (∀ j, sid q = some j → sid s' ≠ some j) → (∀ j, sid q = some j → h.length + 2 < j) → OwnS (H1.set (h.length + 2) (some ⟨false, [.slice (some ⟨H.length + 1, 0, none⟩) (xs.length + 1) 1, t', u']⟩)) 1 q m (kis .i64 w) := by
    intro q m w hq hd hg
    refine own_set (hq.of_blk fun id hid hb => by rw [k id (lt hq id hid) (hd id hid)]; exact hb) fun hx => ?_
    have := hg _ hx; omega
  have hn : ∀ id, id ≠ h.length + 2 → id ≤ h.length + 2 → blk? (H1.set (h.length + 2) (some ⟨false, [.slice (some ⟨H.length + 1, 0, none⟩) (xs.length + 1) 1, t', u']⟩)) id = blk? H id := fun id h1 h2 => by
    rw [blk?_set_ne (fun e => h1 e.symm), k id (by omega) (n0 id h2)]
  exact ⟨by rw [hn _ (by omega) (by omega)]; exact I.p0, by rw [hn _ (by omega) (by omega)]; exact I.p1, by rw [blk?_set_eq (by omega)],
    own_set (by rw [List.length_append]; exact o) (fun hx => by have := hne _ hx; omega), keep I.o2 (fun j hj hs => I.d12 j hs hj) I.g2, keep I.o3 (fun j hj hs => I.d13 j hs hj) I.g3, (fun j hj => by have := hne j hj; omega), I.g2, I.g3, (fun j hj hx => by have := hne j hj; have := lt I.o2 j hx; omega), (fun j hj hx => by have := hne j hj; have := lt I.o3 j hx; omega), I.d23, (fun id hid => by rw [hn id (by omega) (by omega)]; exact I.low id hid), by rw [List.length_set]; omega⟩

theorem astep2 {h H : Heap} {s t u s' t' u' : Value} {a b v : Int} {xs ys zs : List Int} (I : A3 h H s t u a b xs ys zs s' t' u') (hx : ys.length ≤ 200) :
    ∃ r H1 H2, appendV (H ++ [some ⟨false, [.int .i64 v]⟩]) 1 8 t' (.slice (some ⟨H.length, 0, none⟩) 1 1) = some (r, H1) ∧ blk? H1 (h.length + 2) = some ⟨false, [s', t', u']⟩ ∧ r.cells = #[r] ∧ Sim.isVar r = true ∧
      H1.set (h.length + 2) (some ⟨false, [s', r, u']⟩) = H2 ∧ A3 h H2 s t u a b xs (ys ++ [v]) zs s' r u' := by
  obtain ⟨H1, e, o, l, k⟩ := app1 (v := v) I.o2 hx
  have hlen := I.len
  have n0 : ∀ id, id ≤ h.length + 2 → sid t' ≠ some id := fun id hid he => by have := I.g2 id he; omega
  have b2 : blk? H1 (h.length + 2) = some ⟨false, [s', t', u']⟩ := by rw [k _ (by omega) (n0 _ (by omega))]; exact I.p2
  refine ⟨_, H1, _, e, b2, rfl, rfl, rfl, ?_⟩
  have hne : ∀ j, (sid (.slice (some ⟨H.length + 1, 0, none⟩) (ys.length + 1) 1) = some j) → j = H.length + 1 := fun j hj => by simp [sid] at hj; exact hj.symm
  have lt : ∀ {q : Value} {m : Nat} {w : List Int}, OwnS H 1 q m (kis .i64 w) → ∀ j, sid q = some j → j < H.length := fun hq j hj => hq.lt hj
  have keep : ∀ {q : Value} {m : Nat} {w : List Int}, OwnS H 1 q m (kis .i64 w) → (∀ j, sid q = some j → sid t' ≠ some j) → (∀ j, sid q = some j → h.length + 2 < j) → OwnS (H1.set (h.length + 2) (some ⟨false, [s', .slice (some ⟨H.length + 1, 0, none⟩) (ys.length + 1) 1, u']⟩)) 1 q m (kis .i64 w) := by
    intro q m w hq hd hg
    refine own_set (hq.of_blk fun id hid hb => by rw [k id (lt hq id hid) (hd id hid)]; exact hb) fun hx => ?_
    have := hg _ hx; omega
  have hn : ∀ id, id ≠ h.length + 2 → id ≤ h.length + 2 → blk? (H1.set (h.length + 2) (some ⟨false, [s', .slice (some ⟨H.length + 1, 0, none⟩) (ys.length + 1) 1, u']⟩)) id = blk? H id := fun id h1 h2 => by
    rw [blk?_set_ne (fun e => h1 e.symm), k id (by omega) (n0 id h2)]
  exact ⟨by rw [hn _ (by omega) (by omega)]; exact I.p0, by rw [hn _ (by omega) (by omega)]; exact I.p1, by rw [blk?_set_eq (by omega)],
    keep I.o1 (fun j hj => I.d12 j hj) I.g1, own_set (by rw [List.length_append]; exact o) (fun hx => by have := hne _ hx; omega), keep I.o3 (fun j hj hs => I.d23 j hs hj) I.g3, I.g1, (fun j hj => by have := hne j hj; omega), I.g3, (fun j hj hx => by have := hne j hx; have := lt I.o1 j hj; omega), I.d13, (fun j hj hx => by have := hne j hj; have := lt I.o3 j hx; omega), (fun id hid => by rw [hn id (by omega) (by omega)]; exact I.low id hid), by rw [List.length_set]; omega⟩

theorem astep3 {h H : Heap} {s t u s' t' u' : Value} {a b v : Int} {xs ys zs : List Int} (I : A3 h H s t u a b xs ys zs s' t' u') (hx : zs.length ≤ 200) :
    ∃ r H1 H2, appendV (H ++ [some ⟨false, [.int .i64 v]⟩]) 1 8 u' (.slice (some ⟨H.length, 0, none⟩) 1 1) = some (r, H1) ∧ blk? H1 (h.length + 2) = some ⟨false, [s', t', u']⟩ ∧ r.cells = #[r] ∧ Sim.isVar r = true ∧
      H1.set (h.length + 2) (some ⟨false, [s', t', r]⟩) = H2 ∧ A3 h H2 s t u a b xs ys (zs ++ [v]) s' t' r := by
  obtain ⟨H1, e, o, l, k⟩ := app1 (v := v) I.o3 hx
  have hlen := I.len
  have n0 : ∀ id, id ≤ h.length + 2 → sid u' ≠ some id := fun id hid he => by have := I.g3 id he; omega
  have b2 : blk? H1 (h.length + 2) = some ⟨false, [s', t', u']⟩ := by rw [k _ (by omega) (n0 _ (by omega))]; exact I.p2
  refine ⟨_, H1, _, e, b2, rfl, rfl, rfl, ?_⟩
  have hne : ∀ j, (sid (.slice (some ⟨H.length + 1, 0, none⟩) (zs.length + 1) 1) = some j) → j = H.length + 1 := fun j hj => by simp [sid] at hj; exact hj.symm
  have lt : ∀ {q : Value} {m : Nat} {w : List Int}, OwnS H 1 q m (kis .i64 w) → ∀ j, sid q = some j → j < H.length := fun hq j hj => hq.lt hj
  have keep : ∀ {q : Value} {m : Nat} {w : List Int}, OwnS H 1 q m (kis .i64 w) → (∀ j, sid q = some j → sid u' ≠ some j) → (∀ j, sid q = some j → h.length + 2 < j) → OwnS (H1.set (h.length + 2) (some ⟨false, [s', t', .slice (some ⟨H.length + 1, 0, none⟩) (zs.length + 1) 1]⟩)) 1 q m (kis .i64 w) := by
    intro q m w hq hd hg
    refine own_set (hq.of_blk fun id hid hb => by rw [k id (lt hq id hid) (hd id hid)]; exact hb) fun hx => ?_
    have := hg _ hx; omega
  have hn : ∀ id, id ≠ h.length + 2 → id ≤ h.length + 2 → blk? (H1.set (h.length + 2) (some ⟨false, [s', t', .slice (some ⟨H.length + 1, 0, none⟩) (zs.length + 1) 1]⟩)) id = blk? H id := fun id h1 h2 => by
    rw [blk?_set_ne (fun e => h1 e.symm), k id (by omega) (n0 id h2)]
  exact ⟨by rw [hn _ (by omega) (by omega)]; exact I.p0, by rw [hn _ (by omega) (by omega)]; exact I.p1, by rw [blk?_set_eq (by omega)],
    keep I.o1 (fun j hj => I.d13 j hj) I.g1, keep I.o2 (fun j hj => I.d23 j hj) I.g2, own_set (by rw [List.length_append]; exact o) (fun hx => by have := hne _ hx; omega), I.g1, I.g2, (fun j hj => by have := hne j hj; omega), I.d12, (fun j hj hx => by have := hne j hx; have := lt I.o1 j hj; omega), (fun j hj hx => by have := hne j hx; have := lt I.o2 j hj; omega), (fun id hid => by rw [hn id (by omega) (by omega)]; exact I.low id hid), by rw [List.length_set]; omega⟩

theorem Rk.all {k : IntKind} {h : Heap} {s : Value} {xs : List Int} (hi : Rk k h s xs) (h0 : 0 < xs.length) :
    ∃ id off b, s = .slice (some ⟨id, off, none⟩) xs.length 1 ∧ id < h.length ∧ blk? h id = some b ∧ ∀ i (hil : i < xs.length), b.cells[off + i]? = some (.int k xs[i]) := by
  obtain ⟨id, off, b, e, hb, _⟩ := hi.get h0
  refine ⟨id, off, b, e, blk?_lt hb, hb, fun i hil => ?_⟩
  obtain ⟨id', off', b', e', hb', hc⟩ := hi.get hil
  rw [e] at e'
  injection e' with e1 _ _
  injection e1 with e1
  injection e1 with e2 e3 _
  subst e2; subst e3
  rw [hb] at hb'; injection hb' with hb'; subst hb'
  exact hc

section
variable {h : Heap} {s t u : Value} {cs vs ms : List Int} {a b : Int} {v1 v2 : Value}
set_option maxHeartbeats 4000000 in
theorem adds_loop (hc : Rk .i64 h s cs) (hv : Rk .i64 h t vs) (hm : Rk .i64 h u ms) (hl1 : cs.length = vs.length) (hl2 : cs.length = ms.length) (hn : cs.length ≤ 200) {k : List RItem}
    (hk : ∀ (H : Heap) (s' t' u' : Value) (K0 K1 K5 K6 Ka Kb Kc Kd Ke Kf Kg Kh Ki Kj Kk Kl Km Kn Ko Kp Kq Kr Ks Kt Ku Kv Kw Kx Ky Kz J0 J1 J2 J3 J4 J5 J6 J7 J8 J9 Ja Jb Jc Jd Je Jf Jg Jh Ji Jj Jk Jl Jm Jn Jo Jp Jq Jr Js Jt Ju Jv Jw Jx Jy Jz Y0 Y1 Y2 Y3 Y4 Y5 Y6 Y7 Y8 Y9 Ya Yb Yc Yd Ye Yf Yg Yh Yi Yj Yk Yl Ym Yn Yo Yp Yq Yr Ys Yt Yu Yv Yw Yx Yy Yz Z0 Z1 Z2 Z3 Z4 Z5 Z6 Z7 Z8 Z9 Za Zb Zc Zd Ze Zf Zg Zh Zi Zj Zk Zl Zm Zn Zo Zp Zq Zr Zs Zt Zu Zv Zw Zx Zy Zz K0q K1q K2q K3q K4q K5q K6q K7q K8q K9q Kaq Kbq Kcq Kdq Keq Kfq Kgq Khq Kiq Kjq Kkq Klq Kmq Knq Koq Kpq Kqq Krq Ksq Ktq Kuq Kvq Kwq Kxq Kyq Kzq J0q J1q J2q J3q J4q J5q J6q J7q J8q J9q Jaq Jbq Jcq Jdq Jeq Jfq Jgq Jhq Jiq Jjq Jkq Jlq Jmq Jnq Joq Jpq Jqq Jrq Jsq Jtq Juq Jvq Jwq Jxq Jyq Jzq Y0q Y1q Y2q Y3q Y4q Y5q Y6q Y7q Y8q Y9q Yaq Ybq Ycq Ydq Yeq Yfq Ygq Yhq Yiq Yjq Ykq Ylq Ymq Ynq Yoq Ypq Yqq Yrq Ysq Ytq Yuq Yvq Ywq Yxq Yyq Yzq Z0q Z1q Z2q Z3q Z4q Z5q Z6q Z7q Z8q Z9q Zaq Zbq Zcq Zdq Zeq Zfq Zgq Zhq Ziq Zjq : Value), AInv h H s t u a b cs vs ms cs.length s' t' u' → ms.all mOk = true →
      Ok tab R17 k #[K0,K1,v2,ptr h.length,ptr (h.length + 1),K5,K6,.int .i64 cs.length,ptr (h.length + 2),.int .i64 (tot a b cs vs ms cs.length),Ka,Kb,Kc,Kd,Ke,Kf,Kg,Kh,Ki,Kj,Kk,Kl,Km,Kn,Ko,Kp,Kq,Kr,Ks,Kt,Ku,Kv,Kw,Kx,Ky,Kz,J0,J1,J2,J3,J4,J5,J6,J7,J8,J9,Ja,Jb,Jc,Jd,Je,Jf,Jg,Jh,Ji,Jj,Jk,Jl,Jm,Jn,Jo,Jp,Jq,Jr,Js,Jt,Ju,Jv,Jw,Jx,Jy,Jz,Y0,Y1,Y2,Y3,Y4,Y5,Y6,Y7,Y8,Y9,Ya,Yb,Yc,Yd,Ye,Yf,Yg,Yh,Yi,Yj,Yk,Yl,Ym,Yn,Yo,Yp,Yq,Yr,Ys,Yt,Yu,Yv,Yw,Yx,Yy,Yz,Z0,Z1,Z2,Z3,Z4,Z5,Z6,Z7,Z8,Z9,Za,Zb,Zc,Zd,Ze,Zf,Zg,Zh,Zi,Zj,Zk,Zl,Zm,Zn,Zo,Zp,Zq,Zr,Zs,Zt,Zu,Zv,Zw,Zx,Zy,Zz,K0q,K1q,K2q,K3q,K4q,K5q,K6q,K7q,K8q,K9q,Kaq,Kbq,Kcq,Kdq,Keq,Kfq,Kgq,Khq,Kiq,Kjq,Kkq,Klq,Kmq,Knq,Koq,Kpq,Kqq,Krq,Ksq,Ktq,Kuq,Kvq,Kwq,Kxq,Kyq,Kzq,J0q,J1q,J2q,J3q,J4q,J5q,J6q,J7q,J8q,J9q,Jaq,Jbq,Jcq,Jdq,Jeq,Jfq,Jgq,Jhq,Jiq,Jjq,Jkq,Jlq,Jmq,Jnq,Joq,Jpq,Jqq,Jrq,Jsq,Jtq,Juq,Jvq,Jwq,Jxq,Jyq,Jzq,Y0q,Y1q,Y2q,Y3q,Y4q,Y5q,Y6q,Y7q,Y8q,Y9q,Yaq,Ybq,Ycq,Ydq,Yeq,Yfq,Ygq,Yhq,Yiq,Yjq,Ykq,Ylq,Ymq,Ynq,Yoq,Ypq,Yqq,Yrq,Ysq,Ytq,Yuq,Yvq,Ywq,Yxq,Yyq,Yzq,Z0q,Z1q,Z2q,Z3q,Z4q,Z5q,Z6q,Z7q,Z8q,Z9q,Zaq,Zbq,Zcq,Zdq,Zeq,Zfq,Zgq,Zhq,Ziq,Zjq] H fun v _ => v = .bool true) :
    ∀ (n i : Nat) (H : Heap) (s' t' u' : Value) (K0 K1 K5 K6 Kb Kc Kd Ke Kf Kg Kh Ki Kj Kk Kl Km Kn Ko Kp Kq Kr Ks Kt Ku Kv Kw Kx Ky Kz J0 J1 J2 J3 J4 J5 J6 J7 J8 J9 Ja Jb Jc Jd Je Jf Jg Jh Ji Jj Jk Jl Jm Jn Jo Jp Jq Jr Js Jt Ju Jv Jw Jx Jy Jz Y0 Y1 Y2 Y3 Y4 Y5 Y6 Y7 Y8 Y9 Ya Yb Yc Yd Ye Yf Yg Yh Yi Yj Yk Yl Ym Yn Yo Yp Yq Yr Ys Yt Yu Yv Yw Yx Yy Yz Z0 Z1 Z2 Z3 Z4 Z5 Z6 Z7 Z8 Z9 Za Zb Zc Zd Ze Zf Zg Zh Zi Zj Zk Zl Zm Zn Zo Zp Zq Zr Zs Zt Zu Zv Zw Zx Zy Zz K0q K1q K2q K3q K4q K5q K6q K7q K8q K9q Kaq Kbq Kcq Kdq Keq Kfq Kgq Khq Kiq Kjq Kkq Klq Kmq Knq Koq Kpq Kqq Krq Ksq Ktq Kuq Kvq Kwq Kxq Kyq Kzq J0q J1q J2q J3q J4q J5q J6q J7q J8q J9q Jaq Jbq Jcq Jdq Jeq Jfq Jgq Jhq Jiq Jjq Jkq Jlq Jmq Jnq Joq Jpq Jqq Jrq Jsq Jtq Juq Jvq Jwq Jxq Jyq Jzq Y0q Y1q Y2q Y3q Y4q Y5q Y6q Y7q Y8q Y9q Yaq Ybq Ycq Ydq Yeq Yfq Ygq Yhq Yiq Yjq Ykq Ylq Ymq Ynq Yoq Ypq Yqq Yrq Ysq Ytq Yuq Yvq Ywq Yxq Yyq Yzq Z0q Z1q Z2q Z3q Z4q Z5q Z6q Z7q Z8q Z9q Zaq Zbq Zcq Zdq Zeq Zfq Zgq Zhq Ziq Zjq : Value), n = cs.length - i → i ≤ cs.length → AInv h H s t u a b cs vs ms i s' t' u' → (ms.take i).all mOk = true →
      Ok tab R17 (.inLoop L17_0 :: .inBlock 0 :: k) #[K0,K1,v2,ptr h.length,ptr (h.length + 1),K5,K6,.int .i64 cs.length,ptr (h.length + 2),.int .i64 (tot a b cs vs ms i),.int .i64 i,Kb,Kc,Kd,Ke,Kf,Kg,Kh,Ki,Kj,Kk,Kl,Km,Kn,Ko,Kp,Kq,Kr,Ks,Kt,Ku,Kv,Kw,Kx,Ky,Kz,J0,J1,J2,J3,J4,J5,J6,J7,J8,J9,Ja,Jb,Jc,Jd,Je,Jf,Jg,Jh,Ji,Jj,Jk,Jl,Jm,Jn,Jo,Jp,Jq,Jr,Js,Jt,Ju,Jv,Jw,Jx,Jy,Jz,Y0,Y1,Y2,Y3,Y4,Y5,Y6,Y7,Y8,Y9,Ya,Yb,Yc,Yd,Ye,Yf,Yg,Yh,Yi,Yj,Yk,Yl,Ym,Yn,Yo,Yp,Yq,Yr,Ys,Yt,Yu,Yv,Yw,Yx,Yy,Yz,Z0,Z1,Z2,Z3,Z4,Z5,Z6,Z7,Z8,Z9,Za,Zb,Zc,Zd,Ze,Zf,Zg,Zh,Zi,Zj,Zk,Zl,Zm,Zn,Zo,Zp,Zq,Zr,Zs,Zt,Zu,Zv,Zw,Zx,Zy,Zz,K0q,K1q,K2q,K3q,K4q,K5q,K6q,K7q,K8q,K9q,Kaq,Kbq,Kcq,Kdq,Keq,Kfq,Kgq,Khq,Kiq,Kjq,Kkq,Klq,Kmq,Knq,Koq,Kpq,Kqq,Krq,Ksq,Ktq,Kuq,Kvq,Kwq,Kxq,Kyq,Kzq,J0q,J1q,J2q,J3q,J4q,J5q,J6q,J7q,J8q,J9q,Jaq,Jbq,Jcq,Jdq,Jeq,Jfq,Jgq,Jhq,Jiq,Jjq,Jkq,Jlq,Jmq,Jnq,Joq,Jpq,Jqq,Jrq,Jsq,Jtq,Juq,Jvq,Jwq,Jxq,Jyq,Jzq,Y0q,Y1q,Y2q,Y3q,Y4q,Y5q,Y6q,Y7q,Y8q,Y9q,Yaq,Ybq,Ycq,Ydq,Yeq,Yfq,Ygq,Yhq,Yiq,Yjq,Ykq,Ylq,Ymq,Ynq,Yoq,Ypq,Yqq,Yrq,Ysq,Ytq,Yuq,Yvq,Ywq,Yxq,Yyq,Yzq,Z0q,Z1q,Z2q,Z3q,Z4q,Z5q,Z6q,Z7q,Z8q,Z9q,Zaq,Zbq,Zcq,Zdq,Zeq,Zfq,Zgq,Zhq,Ziq,Zjq] H fun v _ => v = .bool true := by
  intro n
  induction n with
  | zero =>
    intro i H s' t' u' K0 K1 K5 K6 Kb Kc Kd Ke Kf Kg Kh Ki Kj Kk Kl Km Kn Ko Kp Kq Kr Ks Kt Ku Kv Kw Kx Ky Kz J0 J1 J2 J3 J4 J5 J6 J7 J8 J9 Ja Jb Jc Jd Je Jf Jg Jh Ji Jj Jk Jl Jm Jn Jo Jp Jq Jr Js Jt Ju Jv Jw Jx Jy Jz Y0 Y1 Y2 Y3 Y4 Y5 Y6 Y7 Y8 Y9 Ya Yb Yc Yd Ye Yf Yg Yh Yi Yj Yk Yl Ym Yn Yo Yp Yq Yr Ys Yt Yu Yv Yw Yx Yy Yz Z0 Z1 Z2 Z3 Z4 Z5 Z6 Z7 Z8 Z9 Za Zb Zc Zd Ze Zf Zg Zh Zi Zj Zk Zl Zm Zn Zo Zp Zq Zr Zs Zt Zu Zv Zw Zx Zy Zz K0q K1q K2q K3q K4q K5q K6q K7q K8q K9q Kaq Kbq Kcq Kdq Keq Kfq Kgq Khq Kiq Kjq Kkq Klq Kmq Knq Koq Kpq Kqq Krq Ksq Ktq Kuq Kvq Kwq Kxq Kyq Kzq J0q J1q J2q J3q J4q J5q J6q J7q J8q J9q Jaq Jbq Jcq Jdq Jeq Jfq Jgq Jhq Jiq Jjq Jkq Jlq Jmq Jnq Joq Jpq Jqq Jrq Jsq Jtq Juq Jvq Jwq Jxq Jyq Jzq Y0q Y1q Y2q Y3q Y4q Y5q Y6q Y7q Y8q Y9q Yaq Ybq Ycq Ydq Yeq Yfq Ygq Yhq Yiq Yjq Ykq Ylq Ymq Ynq Yoq Ypq Yqq Yrq Ysq Ytq Yuq Yvq Ywq Yxq Yyq Yzq Z0q Z1q Z2q Z3q Z4q Z5q Z6q Z7q Z8q Z9q Zaq Zbq Zcq Zdq Zeq Zfq Zgq Zhq Ziq Zjq hni hi I hM
    have him : i = cs.length := by omega
    subst him
    have hM' : ms.all mOk = true := by rw [List.take_of_length_le (by omega)] at hM; exact hM
    rw [ok_round, l17_0, L17_0a, L17_0b]
    simp
    exact hk H s' t' u' _ _ _ _ _ _ _ _ _ _ _ _ _ _ _ _ _ _ _ _ _ _ _ _ _ _ _ _ _ _ _ _ _ _ _ _ _ _ _ _ _ _ _ _ _ _ _ _ _ _ _ _ _ _ _ _ _ _ _ _ _ _ _ _ _ _ _ _ _ _ _ _ _ _ _ _ _ _ _ _ _ _ _ _ _ _ _ _ _ _ _ _ _ _ _ _ _ _ _ _ _ _ _ _ _ _ _ _ _ _ _ _ _ _ _ _ _ _ _ _ _ _ _ _ _ _ _ _ _ _ _ _ _ _ _ _ _ _ _ _ _ _ _ _ _ _ _ _ _ _ _ _ _ _ _ _ _ _ _ _ _ _ _ _ _ _ _ _ _ _ _ _ _ _ _ _ _ _ _ _ _ _ _ _ _ _ _ _ _ _ _ _ _ _ _ _ _ _ _ _ _ _ _ _ _ _ _ _ _ _ _ _ _ _ _ _ _ _ _ _ _ _ _ _ _ _ _ _ _ _ _ _ _ _ _ _ _ _ _ _ _ _ _ _ _ _ _ _ _ _ _ _ _ _ _ _ _ _ _ _ _ _ _ _ _ _ I hM'
  | succ n ih =>
    intro i H s' t' u' K0 K1 K5 K6 Kb Kc Kd Ke Kf Kg Kh Ki Kj Kk Kl Km Kn Ko Kp Kq Kr Ks Kt Ku Kv Kw Kx Ky Kz J0 J1 J2 J3 J4 J5 J6 J7 J8 J9 Ja Jb Jc Jd Je Jf Jg Jh Ji Jj Jk Jl Jm Jn Jo Jp Jq Jr Js Jt Ju Jv Jw Jx Jy Jz Y0 Y1 Y2 Y3 Y4 Y5 Y6 Y7 Y8 Y9 Ya Yb Yc Yd Ye Yf Yg Yh Yi Yj Yk Yl Ym Yn Yo Yp Yq Yr Ys Yt Yu Yv Yw Yx Yy Yz Z0 Z1 Z2 Z3 Z4 Z5 Z6 Z7 Z8 Z9 Za Zb Zc Zd Ze Zf Zg Zh Zi Zj Zk Zl Zm Zn Zo Zp Zq Zr Zs Zt Zu Zv Zw Zx Zy Zz K0q K1q K2q K3q K4q K5q K6q K7q K8q K9q Kaq Kbq Kcq Kdq Keq Kfq Kgq Khq Kiq Kjq Kkq Klq Kmq Knq Koq Kpq Kqq Krq Ksq Ktq Kuq Kvq Kwq Kxq Kyq Kzq J0q J1q J2q J3q J4q J5q J6q J7q J8q J9q Jaq Jbq Jcq Jdq Jeq Jfq Jgq Jhq Jiq Jjq Jkq Jlq Jmq Jnq Joq Jpq Jqq Jrq Jsq Jtq Juq Jvq Jwq Jxq Jyq Jzq Y0q Y1q Y2q Y3q Y4q Y5q Y6q Y7q Y8q Y9q Yaq Ybq Ycq Ydq Yeq Yfq Ygq Yhq Yiq Yjq Ykq Ylq Ymq Ynq Yoq Ypq Yqq Yrq Ysq Ytq Yuq Yvq Ywq Yxq Yyq Yzq Z0q Z1q Z2q Z3q Z4q Z5q Z6q Z7q Z8q Z9q Zaq Zbq Zcq Zdq Zeq Zfq Zgq Zhq Ziq Zjq hni hi I hM
    have hlt : ((i : Int) < cs.length) := by omega
    have h1 : i < cs.length := by omega
    have h2 : i < vs.length := by omega
    have h3 : i < ms.length := by omega
    have q1 : cs.length - 1 - i < cs.length := by omega
    have q2 : cs.length - 1 - i < vs.length := by omega
    have q3 : cs.length - 1 - i < ms.length := by omega
    have ql2 : ((i : Int) < vs.length) := by omega
    have ql3 : ((i : Int) < ms.length) := by omega
    have w1 : IntKind.i64.wrap ((cs.length : Int) - 1) = (cs.length : Int) - 1 := wrapI (by omega) (by omega)
    have w2 : IntKind.i64.wrap ((cs.length : Int) - 1 - (i : Int)) = ((cs.length - 1 - i : Nat) : Int) := by rw [wrapI (by omega) (by omega)]; omega
    have w3 : IntKind.i64.wrap ((i : Int) + 1) = ((i + 1 : Nat) : Int) := wrapN (n := i + 1) (by omega)
    have e1 : ms.take (i + 1) = ms.take i ++ [ms[i]] := by rw [List.take_add_one, List.getElem?_eq_getElem h3]; rfl
    have r1 : (cs.reverse.take i).length ≤ 200 := by rw [List.length_take]; omega
    have r2 : (vs.reverse.take i).length ≤ 200 := by rw [List.length_take]; omega
    have r3 : (ms.reverse.take i).length ≤ 200 := by rw [List.length_take]; omega
    obtain ⟨x1, H1, H2, A1, B1, C1, D1, E1, I1⟩ := astep1 (v := cs[cs.length - 1 - i]) I r1
    obtain ⟨x2, H3, H4, A2, B2, C2, D2, E2, I2⟩ := astep2 (v := vs[cs.length - 1 - i]) I1 r2
    obtain ⟨x3, H5, H6, A3', B3, C3, D3, E3, I3⟩ := astep3 (v := ms[cs.length - 1 - i]) I2 r3
    have hI : AInv h H6 s t u a b cs vs ms (i + 1) x1 x2 x3 := by
      have z1 := rev_take h1
      have z2 := rev_take h2
      have z3 := rev_take h3
      have y2 : vs[vs.length - 1 - i] = vs[cs.length - 1 - i] := by congr 1; omega
      have y3 : ms[ms.length - 1 - i] = ms[cs.length - 1 - i] := by congr 1; omega
      rw [y2] at z2; rw [y3] at z3
      unfold AInv
      rw [z1, z2, z3]; exact I3
    obtain ⟨id1, o1, b1, hs, lt1, hb1, hc1⟩ := Rk.all hc (by omega)
    obtain ⟨id2, o2, b2, ht, lt2, hb2, hc2⟩ := Rk.all hv (by omega)
    obtain ⟨id3, o3, b3, hu, lt3, hb3, hc3⟩ := Rk.all hm (by omega)
    obtain ⟨v1, v2⟩ := wf_i64 (hc.rng cs[i] (List.getElem_mem h1))
    obtain ⟨v3, v4⟩ := wf_i64 (hv.rng vs[i] (List.getElem_mem h2))
    have he := fun H R => error_c (h := H) (R := R) (m := ms[i]) (a := a) (b := b) v1 v2 v3 v4
    have ih' := fun K0 K1 K5 K6 Kb Kc Kd Ke Kf Kg Kh Ki Kj Kk Kl Km Kn Ko Kp Kq Kr Ks Kt Ku Kv Kw Kx Ky Kz J0 J1 J2 J3 J4 J5 J6 J7 J8 J9 Ja Jb Jc Jd Je Jf Jg Jh Ji Jj Jk Jl Jm Jn Jo Jp Jq Jr Js Jt Ju Jv Jw Jx Jy Jz Y0 Y1 Y2 Y3 Y4 Y5 Y6 Y7 Y8 Y9 Ya Yb Yc Yd Ye Yf Yg Yh Yi Yj Yk Yl Ym Yn Yo Yp Yq Yr Ys Yt Yu Yv Yw Yx Yy Yz Z0 Z1 Z2 Z3 Z4 Z5 Z6 Z7 Z8 Z9 Za Zb Zc Zd Ze Zf Zg Zh Zi Zj Zk Zl Zm Zn Zo Zp Zq Zr Zs Zt Zu Zv Zw Zx Zy Zz K0q K1q K2q K3q K4q K5q K6q K7q K8q K9q Kaq Kbq Kcq Kdq Keq Kfq Kgq Khq Kiq Kjq Kkq Klq Kmq Knq Koq Kpq Kqq Krq Ksq Ktq Kuq Kvq Kwq Kxq Kyq Kzq J0q J1q J2q J3q J4q J5q J6q J7q J8q J9q Jaq Jbq Jcq Jdq Jeq Jfq Jgq Jhq Jiq Jjq Jkq Jlq Jmq Jnq Joq Jpq Jqq Jrq Jsq Jtq Juq Jvq Jwq Jxq Jyq Jzq Y0q Y1q Y2q Y3q Y4q Y5q Y6q Y7q Y8q Y9q Yaq Ybq Ycq Ydq Yeq Yfq Ygq Yhq Yiq Yjq Ykq Ylq Ymq Ynq Yoq Ypq Yqq Yrq Ysq Ytq Yuq Yvq Ywq Yxq Yyq Yzq Z0q Z1q Z2q Z3q Z4q Z5q Z6q Z7q Z8q Z9q Zaq Zbq Zcq Zdq Zeq Zfq Zgq Zhq Ziq Zjq hM' => ih (i + 1) H6 x1 x2 x3 K0 K1 K5 K6 Kb Kc Kd Ke Kf Kg Kh Ki Kj Kk Kl Km Kn Ko Kp Kq Kr Ks Kt Ku Kv Kw Kx Ky Kz J0 J1 J2 J3 J4 J5 J6 J7 J8 J9 Ja Jb Jc Jd Je Jf Jg Jh Ji Jj Jk Jl Jm Jn Jo Jp Jq Jr Js Jt Ju Jv Jw Jx Jy Jz Y0 Y1 Y2 Y3 Y4 Y5 Y6 Y7 Y8 Y9 Ya Yb Yc Yd Ye Yf Yg Yh Yi Yj Yk Yl Ym Yn Yo Yp Yq Yr Ys Yt Yu Yv Yw Yx Yy Yz Z0 Z1 Z2 Z3 Z4 Z5 Z6 Z7 Z8 Z9 Za Zb Zc Zd Ze Zf Zg Zh Zi Zj Zk Zl Zm Zn Zo Zp Zq Zr Zs Zt Zu Zv Zw Zx Zy Zz K0q K1q K2q K3q K4q K5q K6q K7q K8q K9q Kaq Kbq Kcq Kdq Keq Kfq Kgq Khq Kiq Kjq Kkq Klq Kmq Knq Koq Kpq Kqq Krq Ksq Ktq Kuq Kvq Kwq Kxq Kyq Kzq J0q J1q J2q J3q J4q J5q J6q J7q J8q J9q Jaq Jbq Jcq Jdq Jeq Jfq Jgq Jhq Jiq Jjq Jkq Jlq Jmq Jnq Joq Jpq Jqq Jrq Jsq Jtq Juq Jvq Jwq Jxq Jyq Jzq Y0q Y1q Y2q Y3q Y4q Y5q Y6q Y7q Y8q Y9q Yaq Ybq Ycq Ydq Yeq Yfq Ygq Yhq Yiq Yjq Ykq Ylq Ymq Ynq Yoq Ypq Yqq Yrq Ysq Ytq Yuq Yvq Ywq Yxq Yyq Yzq Z0q Z1q Z2q Z3q Z4q Z5q Z6q Z7q Z8q Z9q Zaq Zbq Zcq Zdq Zeq Zfq Zgq Zhq Ziq Zjq (by omega) (by omega) hI hM'
    rw [e1] at ih'
    have f1 := hc1 i h1
    have f2 := hc2 i h2
    have f3 := hc3 i h3
    have k1 := hc1 _ q1
    have k2 := hc2 _ q2
    have k3 := hc3 _ q3
    have t1 := tot_rng a b cs vs ms i
    have t2 := err_sq cs[i] vs[i] ms[i] a b
    have t3 := errI_rng cs[i] vs[i] ms[i] a b
    have g1 : cs.getD i 0 = cs[i] := by rw [List.getD_eq_getElem?_getD, List.getElem?_eq_getElem h1]; rfl
    have g2 : vs.getD i 0 = vs[i] := by rw [List.getD_eq_getElem?_getD, List.getElem?_eq_getElem h2]; rfl
    have g3 : ms.getD i 0 = ms[i] := by rw [List.getD_eq_getElem?_getD, List.getElem?_eq_getElem h3]; rfl
    have hT : tot a b cs vs ms (i + 1) = tot a b cs vs ms i + errI cs[i] vs[i] ms[i] a b * errI cs[i] vs[i] ms[i] a b := by rw [tot, g1, g2, g3]
    rw [hT] at ih'
    generalize errI cs[i] vs[i] ms[i] a b = e at *
    generalize tot a b cs vs ms i = T at *
    have w4 : IntKind.i64.wrap (e * e) = e * e := wrapI (by omega) (by omega)
    have w5 : IntKind.i64.wrap (T + e * e) = T + e * e := wrapI (by omega) (by omega)
    have ne1 : ¬ e < 0 := by omega
    have ne2 : ¬ 32767 < e := by omega
    have m1 : mOk ms[i] = true → ¬ ms[i] < 0 ∧ ¬ 60 < ms[i] := by unfold mOk; simp <;> omega
    have m2 : mOk ms[i] = false → ms[i] < 0 ∨ (¬ ms[i] < 0 ∧ 60 < ms[i]) := by unfold mOk; simp <;> omega
    have a1 := fun id hid => I.low id hid
    have L0 := I.low; have L1 := I1.low; have L2 := I2.low; have L3 := I3.low
    have P0 := I.p0; have P1 := I.p1; have P2 := I.p2
    have Q0 := I1.p0; have Q2 := I1.p2
    have S0 := I2.p0; have S2 := I2.p2
    have U0 := I3.p0; have U1 := I3.p1; have U2 := I3.p2
    have c1 : blk? H id1 = some b1 := by rw [L0 _ lt1]; exact hb1
    have c2 : blk? H2 id2 = some b2 := by rw [L1 _ lt2]; exact hb2
    have c3 : blk? H4 id3 = some b3 := by rw [L2 _ lt3]; exact hb3
    have c3' : blk? H id3 = some b3 := by rw [L0 _ lt3]; exact hb3
    have d1 : blk? H6 id1 = some b1 := by rw [L3 _ lt1]; exact hb1
    have d2 : blk? H6 id2 = some b2 := by rw [L3 _ lt2]; exact hb2
    have d3 : blk? H6 id3 = some b3 := by rw [L3 _ lt3]; exact hb3
    clear hI I1 I2 I3 I L0 L1 L2 L3 a1 hc1 hc2 hc3 hc hv hm hk ih
    generalize ((i + 1 : Nat) : Int) = i1 at *
    generalize hkk : cs.length - 1 - i = kk at *
    have kl1 : ((kk : Int) < cs.length) := by omega
    have kl2 : ((kk : Int) < vs.length) := by omega
    have kl3 : ((kk : Int) < ms.length) := by omega
    generalize ms[i] = mi at *
    generalize cs[i] = ci at *
    generalize vs[i] = vi at *
    generalize cs[kk] = ck at *
    generalize vs[kk] = vk at *
    generalize ms[kk] = mk at *
    subst hs; subst ht; subst hu
    rw [ok_round, l17_0, L17_0a, L17_0b]
    cases hmo : mOk mi with
    | false =>
      rcases m2 hmo with hx | ⟨hx, hy⟩
      · simp [k_guard, hlt, ql3, w1, w2, P0, c3', f3, hx, ex_eq, fin17]
      · simp [k_guard, hlt, ql3, w1, w2, P0, c3', f3, hx, hy, ex_eq, fin17]
    | true =>
      obtain ⟨hx, hy⟩ := m1 hmo
      have hM' : (ms.take i ++ [mi]).all mOk = true := by rw [List.all_append, hM]; simp [hmo]
      have ih2 := fun K0 K1 K5 K6 Kb Kc Kd Ke Kf Kg Kh Ki Kj Kk Kl Km Kn Ko Kp Kq Kr Ks Kt Ku Kv Kw Kx Ky Kz J0 J1 J2 J3 J4 J5 J6 J7 J8 J9 Ja Jb Jc Jd Je Jf Jg Jh Ji Jj Jk Jl Jm Jn Jo Jp Jq Jr Js Jt Ju Jv Jw Jx Jy Jz Y0 Y1 Y2 Y3 Y4 Y5 Y6 Y7 Y8 Y9 Ya Yb Yc Yd Ye Yf Yg Yh Yi Yj Yk Yl Ym Yn Yo Yp Yq Yr Ys Yt Yu Yv Yw Yx Yy Yz Z0 Z1 Z2 Z3 Z4 Z5 Z6 Z7 Z8 Z9 Za Zb Zc Zd Ze Zf Zg Zh Zi Zj Zk Zl Zm Zn Zo Zp Zq Zr Zs Zt Zu Zv Zw Zx Zy Zz K0q K1q K2q K3q K4q K5q K6q K7q K8q K9q Kaq Kbq Kcq Kdq Keq Kfq Kgq Khq Kiq Kjq Kkq Klq Kmq Knq Koq Kpq Kqq Krq Ksq Ktq Kuq Kvq Kwq Kxq Kyq Kzq J0q J1q J2q J3q J4q J5q J6q J7q J8q J9q Jaq Jbq Jcq Jdq Jeq Jfq Jgq Jhq Jiq Jjq Jkq Jlq Jmq Jnq Joq Jpq Jqq Jrq Jsq Jtq Juq Jvq Jwq Jxq Jyq Jzq Y0q Y1q Y2q Y3q Y4q Y5q Y6q Y7q Y8q Y9q Yaq Ybq Ycq Ydq Yeq Yfq Ygq Yhq Yiq Yjq Ykq Ylq Ymq Ynq Yoq Ypq Yqq Yrq Ysq Ytq Yuq Yvq Ywq Yxq Yyq Yzq Z0q Z1q Z2q Z3q Z4q Z5q Z6q Z7q Z8q Z9q Zaq Zbq Zcq Zdq Zeq Zfq Zgq Zhq Ziq Zjq => ih' K0 K1 K5 K6 Kb Kc Kd Ke Kf Kg Kh Ki Kj Kk Kl Km Kn Ko Kp Kq Kr Ks Kt Ku Kv Kw Kx Ky Kz J0 J1 J2 J3 J4 J5 J6 J7 J8 J9 Ja Jb Jc Jd Je Jf Jg Jh Ji Jj Jk Jl Jm Jn Jo Jp Jq Jr Js Jt Ju Jv Jw Jx Jy Jz Y0 Y1 Y2 Y3 Y4 Y5 Y6 Y7 Y8 Y9 Ya Yb Yc Yd Ye Yf Yg Yh Yi Yj Yk Yl Ym Yn Yo Yp Yq Yr Ys Yt Yu Yv Yw Yx Yy Yz Z0 Z1 Z2 Z3 Z4 Z5 Z6 Z7 Z8 Z9 Za Zb Zc Zd Ze Zf Zg Zh Zi Zj Zk Zl Zm Zn Zo Zp Zq Zr Zs Zt Zu Zv Zw Zx Zy Zz K0q K1q K2q K3q K4q K5q K6q K7q K8q K9q Kaq Kbq Kcq Kdq Keq Kfq Kgq Khq Kiq Kjq Kkq Klq Kmq Knq Koq Kpq Kqq Krq Ksq Ktq Kuq Kvq Kwq Kxq Kyq Kzq J0q J1q J2q J3q J4q J5q J6q J7q J8q J9q Jaq Jbq Jcq Jdq Jeq Jfq Jgq Jhq Jiq Jjq Jkq Jlq Jmq Jnq Joq Jpq Jqq Jrq Jsq Jtq Juq Jvq Jwq Jxq Jyq Jzq Y0q Y1q Y2q Y3q Y4q Y5q Y6q Y7q Y8q Y9q Yaq Ybq Ycq Ydq Yeq Yfq Ygq Yhq Yiq Yjq Ykq Ylq Ymq Ynq Yoq Ypq Yqq Yrq Ysq Ytq Yuq Yvq Ywq Yxq Yyq Yzq Z0q Z1q Z2q Z3q Z4q Z5q Z6q Z7q Z8q Z9q Zaq Zbq Zcq Zdq Zeq Zfq Zgq Zhq Ziq Zjq hM'
      simp (maxSteps := 4000000) [repL, k_guard, hlt, ql2, ql3, kl1, kl2, kl3, w1, w2, w3, P0, P1, P2, c1, c2, c3, c3', f1, f2, f3, k1, k2, k3, hx, hy, A1, B1, C1, D1, E1, A2, B2, C2, D2, E2, A3', B3, C3, D3, E3, Q0, Q2, S0, S2, U0, U1, U2, d1, d2, d3, he, w4, w5, ne1, ne2]
      exact ih2 _ _ _ _ _ _ _ _ _ _ _ _ _ _ _ _ _ _ _ _ _ _ _ _ _ _ _ _ _ _ _ _ _ _ _ _ _ _ _ _ _ _ _ _ _ _ _ _ _ _ _ _ _ _ _ _ _ _ _ _ _ _ _ _ _ _ _ _ _ _ _ _ _ _ _ _ _ _ _ _ _ _ _ _ _ _ _ _ _ _ _ _ _ _ _ _ _ _ _ _ _ _ _ _ _ _ _ _ _ _ _ _ _ _ _ _ _ _ _ _ _ _ _ _ _ _ _ _ _ _ _ _ _ _ _ _ _ _ _ _ _ _ _ _ _ _ _ _ _ _ _ _ _ _ _ _ _ _ _ _ _ _ _ _ _ _ _ _ _ _ _ _ _ _ _ _ _ _ _ _ _ _ _ _ _ _ _ _ _ _ _ _ _ _ _ _ _ _ _ _ _ _ _ _ _ _ _ _ _ _ _ _ _ _ _ _ _ _ _ _ _ _ _ _ _ _ _ _ _ _ _ _ _ _ _ _ _ _ _ _ _ _ _ _ _ _ _ _ _ _ _ _ _ _ _ _ _ _ _ _ _ _ _ _ _

theorem wf_u8n {n : Int} (h : (Lit.int .u8 n).wf = true) : 0 ≤ n ∧ n < 256 := wf_u8 h
set_option maxHeartbeats 4000000 in
theorem ret_adds (hc : Rk .i64 h s cs) (hv : Rk .i64 h t vs) (hm : Rk .i64 h u ms) {at' : Int} (wa : (Lit.int .u8 at').wf = true) :
    Ret tab 17 [.agg #[s, t, u], .agg #[.int .i64 a, .int .i64 b], .int .u8 at'] h fun v _ => v = .bool true := by
  obtain ⟨wa1, wa2⟩ := wf_u8 wa
  obtain ⟨sa, sc, rfl⟩ := hc.sl.shape
  obtain ⟨ta, tc, rfl⟩ := hv.sl.shape
  obtain ⟨ua, uc, rfl⟩ := hm.sl.shape
  rw [enter17, B17]
  by_cases hn : (200 : Int) < cs.length
  · simp (maxSteps := 4000000) [k_guard, app_len, app_add, app_zero, app_succ, hn, ex_eq, fin17]
  by_cases hl1 : cs.length = vs.length
  rotate_left
  · have hl1' : ((vs.length : Int) != cs.length) = true := by simp; omega
    simp (maxSteps := 4000000) [k_guard, app_len, app_add, app_zero, app_succ, hn, hl1', ex_eq, fin17]
  have hl1' : ((vs.length : Int) != cs.length) = false := by simp; omega
  by_cases hl2 : cs.length = ms.length
  rotate_left
  · have hl2' : ((ms.length : Int) != cs.length) = true := by simp; omega
    simp (maxSteps := 4000000) [k_guard, app_len, app_add, app_zero, app_succ, hn, hl1', hl2', ex_eq, fin17]
  have hl2' : ((ms.length : Int) != cs.length) = false := by simp; omega
  have hq := fun H R => qvalid_r (h := H) (R := R) (a := a) (b := b)
  by_cases hqo : QOk a b
  rotate_left
  · simp (maxSteps := 4000000) [k_guard, app_len, app_add, app_zero, app_succ, hn, hl1', hl2', hq, hqo, ex_eq, fin17]
  have I0 : AInv h (h ++ [some ⟨false, [.slice sa cs.length sc, .slice ta vs.length tc, .slice ua ms.length uc]⟩, some ⟨false, [.int .i64 a, .int .i64 b]⟩, some ⟨false, [.slice none 0 0, .slice none 0 0, .slice none 0 0]⟩]) (.slice sa cs.length sc) (.slice ta vs.length tc) (.slice ua ms.length uc) a b cs vs ms 0 (.slice none 0 0) (.slice none 0 0) (.slice none 0 0) := by
    refine ⟨by rw [app_len]; rfl, by rw [app_add]; rfl, by rw [app_add]; rfl, OwnS.nil _ _, OwnS.nil _ _, OwnS.nil _ _, ?_, ?_, ?_, ?_, ?_, ?_, fun id hid => app_lt hid, by simp⟩ <;> (intro j hj; simp [sid] at hj)
  simp (maxSteps := 4000000) [k_guard, app_len, app_add, app_zero, app_succ, hn, hl1', hl2', hq, hqo]
  refine adds_loop hc hv hm hl1 hl2 (by omega) ?_ cs.length 0 _ _ _ _ _ _ _ _ _ _ _ _ _ _ _ _ _ _ _ _ _ _ _ _ _ _ _ _ _ _ _ _ _ _ _ _ _ _ _ _ _ _ _ _ _ _ _ _ _ _ _ _ _ _ _ _ _ _ _ _ _ _ _ _ _ _ _ _ _ _ _ _ _ _ _ _ _ _ _ _ _ _ _ _ _ _ _ _ _ _ _ _ _ _ _ _ _ _ _ _ _ _ _ _ _ _ _ _ _ _ _ _ _ _ _ _ _ _ _ _ _ _ _ _ _ _ _ _ _ _ _ _ _ _ _ _ _ _ _ _ _ _ _ _ _ _ _ _ _ _ _ _ _ _ _ _ _ _ _ _ _ _ _ _ _ _ _ _ _ _ _ _ _ _ _ _ _ _ _ _ _ _ _ _ _ _ _ _ _ _ _ _ _ _ _ _ _ _ _ _ _ _ _ _ _ _ _ _ _ _ _ _ _ _ _ _ _ _ _ _ _ _ _ _ _ _ _ _ _ _ _ _ _ _ _ _ _ _ _ _ _ _ _ _ _ _ _ _ _ _ _ _ _ _ _ _ _ _ _ _ _ _ _ _ _ _ _ _ _ (by omega) (by omega) I0 rfl
  clear I0
  intro H s' t' u' K0 K1 K5 K6 Ka Kb Kc Kd Ke Kf Kg Kh Ki Kj Kk Kl Km Kn Ko Kp Kq Kr Ks Kt Ku Kv Kw Kx Ky Kz J0 J1 J2 J3 J4 J5 J6 J7 J8 J9 Ja Jb Jc Jd Je Jf Jg Jh Ji Jj Jk Jl Jm Jn Jo Jp Jq Jr Js Jt Ju Jv Jw Jx Jy Jz Y0 Y1 Y2 Y3 Y4 Y5 Y6 Y7 Y8 Y9 Ya Yb Yc Yd Ye Yf Yg Yh Yi Yj Yk Yl Ym Yn Yo Yp Yq Yr Ys Yt Yu Yv Yw Yx Yy Yz Z0 Z1 Z2 Z3 Z4 Z5 Z6 Z7 Z8 Z9 Za Zb Zc Zd Ze Zf Zg Zh Zi Zj Zk Zl Zm Zn Zo Zp Zq Zr Zs Zt Zu Zv Zw Zx Zy Zz K0q K1q K2q K3q K4q K5q K6q K7q K8q K9q Kaq Kbq Kcq Kdq Keq Kfq Kgq Khq Kiq Kjq Kkq Klq Kmq Knq Koq Kpq Kqq Krq Ksq Ktq Kuq Kvq Kwq Kxq Kyq Kzq J0q J1q J2q J3q J4q J5q J6q J7q J8q J9q Jaq Jbq Jcq Jdq Jeq Jfq Jgq Jhq Jiq Jjq Jkq Jlq Jmq Jnq Joq Jpq Jqq Jrq Jsq Jtq Juq Jvq Jwq Jxq Jyq Jzq Y0q Y1q Y2q Y3q Y4q Y5q Y6q Y7q Y8q Y9q Yaq Ybq Ycq Ydq Yeq Yfq Ygq Yhq Yiq Yjq Ykq Ylq Ymq Ynq Yoq Ypq Yqq Yrq Ysq Ytq Yuq Yvq Ywq Yxq Yyq Yzq Z0q Z1q Z2q Z3q Z4q Z5q Z6q Z7q Z8q Z9q Zaq Zbq Zcq Zdq Zeq Zfq Zgq Zhq Ziq Zjq I hM
  have hlen := I.len
  have q1 := hc.keep (h' := H) (by omega) (fun id hid _ => I.low id hid)
  have q2 := hv.keep (h' := H) (by omega) (fun id hid _ => I.low id hid)
  have q3 := hm.keep (h' := H) (by omega) (fun id hid _ => I.low id hid)
  have back : ∀ {q : Value} {xs : List Int}, (∀ v ∈ xs, (Lit.int .i64 v).wf = true) → OwnS H 1 q (xs.reverse.take cs.length).length (kis .i64 (xs.reverse.take cs.length)) → xs.length = cs.length → Rk .i64 H q xs.reverse := by
    intro q xs hr ho hx
    rw [List.take_of_length_le (by rw [List.length_reverse]; omega)] at ho
    refine Rk.own ho ?_ (fun v hv => hr v (List.mem_reverse.1 hv))
    obtain ⟨ba, bc, hb⟩ := ho.sl.shape
    rw [hb]
    cases ba with
    | none => simp
    | some ad =>
      have := ho.lt (id := ad.block) (by rw [hb]; rfl)
      simpa using this
  have b1 := back hc.rng I.o1 rfl
  have b2 := back hv.rng I.o2 hl1.symm
  have b3 := back hm.rng I.o3 hl2.symm
  have hmr : ms.reverse.all mOk = true := by rw [List.all_reverse]; exact hM
  have T1 := fun R => total_c (R := R) q1 q2 q3 (a := a) (b := b) (w := 1)
  rw [totRes_ok hl1 hl2 (by omega) hqo hM (by omega) (by omega)] at T1
  have T2 := fun R => total_c (R := R) b1 b2 b3 (a := a) (b := b) (w := 1)
  rw [totRes_ok (by simp; omega) (by simp; omega) (by simp; omega) hqo hmr (by omega) (by omega), List.length_reverse, tot_rev hl1 hl2] at T2
  have kl : (at'.toNat % (cs.length + 1)) ≤ cs.length := by have := Nat.mod_lt at'.toNat (show 0 < cs.length + 1 by omega); omega
  have ek : at'.tmod ((cs.length : Int) + 1) = ((at'.toNat % (cs.length + 1) : Nat) : Int) := by
    obtain ⟨n, rfl⟩ := Int.eq_ofNat_of_zero_le wa1
    rw [Int.tmod_eq_emod_of_nonneg (by omega), Int.toNat_natCast]; simp
  have ew : at'.tmod 17 = ((at'.toNat % 17 : Nat) : Int) := by
    obtain ⟨n, rfl⟩ := Int.eq_ofNat_of_zero_le wa1
    rw [Int.tmod_eq_emod_of_nonneg (by omega), Int.toNat_natCast]; simp
  have hw17 : at'.toNat % 17 < 17 := Nat.mod_lt _ (by decide)
  generalize at'.toNat % (cs.length + 1) = kk at *
  generalize at'.toNat % 17 = ww at *
  have W1 : IntKind.i64.wrap at' = at' := wrapI (by omega) (by omega)
  have W2 : IntKind.i64.wrap ((cs.length : Int) + 1) = (cs.length : Int) + 1 := wrapI (by omega) (by omega)
  have W0 : ¬ (cs.length : Int) + 1 = 0 := by omega
  have bt : ∀ {n : Nat}, kk ≤ n → bndO (some (.int .i64 (kk : Int))) n n = some kk := fun hx => by simp [bndO, bnd]; omega
  obtain ⟨u1, e1, m1⟩ := q1.sub (l := 0) (t := kk) (by omega) (by omega) (lo := none) (hi' := some (.int .i64 (kk : Int))) (bt (by omega)) rfl
  obtain ⟨u2, e2, m2⟩ := q2.sub (l := 0) (t := kk) (by omega) (by omega) (lo := none) (hi' := some (.int .i64 (kk : Int))) (bt (by omega)) rfl
  obtain ⟨u3, e3, m3⟩ := q3.sub (l := 0) (t := kk) (by omega) (by omega) (lo := none) (hi' := some (.int .i64 (kk : Int))) (bt (by omega)) rfl
  have bl : ∀ {n : Nat}, kk ≤ n → bndO (some (.int .i64 (kk : Int))) n 0 = some kk := fun hx => by simp [bndO, bnd]; omega
  obtain ⟨u4, e4, m4⟩ := q1.sub (l := kk) (t := cs.length) (by omega) (by omega) (lo := some (.int .i64 (kk : Int))) (hi' := none) rfl (bl (by omega))
  obtain ⟨u5, e5, m5⟩ := q2.sub (l := kk) (t := vs.length) (by omega) (by omega) (lo := some (.int .i64 (kk : Int))) (hi' := none) rfl (bl (by omega))
  obtain ⟨u6, e6, m6⟩ := q3.sub (l := kk) (t := ms.length) (by omega) (by omega) (lo := some (.int .i64 (kk : Int))) (hi' := none) rfl (bl (by omega))
  simp only [List.drop_zero] at m1 m2 m3
  rw [List.take_length] at m4 m5 m6
  have all1 : (ms.take kk).all mOk = true := by rw [List.all_eq_true] at hM ⊢; exact fun x hx => hM x (List.mem_of_mem_take hx)
  have all2 : (ms.drop kk).all mOk = true := by rw [List.all_eq_true] at hM ⊢; exact fun x hx => hM x (List.mem_of_mem_drop hx)
  have T3 := fun R => total_c (R := R) m1 m2 m3 (a := a) (b := b) (w := 1)
  rw [totRes_ok (by simp; omega) (by simp; omega) (by simp; omega) hqo all1 (by omega) (by omega), List.length_take, Nat.min_eq_left kl] at T3
  have T4 := fun R => total_c (R := R) m4 m5 m6 (a := a) (b := b) (w := 1)
  rw [totRes_ok (by simp; omega) (by simp; omega) (by simp; omega) hqo all2 (by omega) (by omega), List.length_drop] at T4
  have T5 := fun R => total_c (R := R) q1 q2 q3 (a := a) (b := b) (w := ww)
  rw [totRes_ok hl1 hl2 (by omega) hqo hM (by omega) (by omega)] at T5
  have hsum := tot_parts (a := a) (b := b) (vs := vs) (ms := ms) kl
  have r1 := tot_rng a b (cs.take kk) (vs.take kk) (ms.take kk) kk
  have r2 := tot_rng a b (cs.drop kk) (vs.drop kk) (ms.drop kk) (cs.length - kk)
  have r3 := tot_rng a b cs vs ms cs.length
  simp only [Int.mul_one] at T1 T2 T3 T4
  generalize tot a b (cs.take kk) (vs.take kk) (ms.take kk) kk = X1 at *
  generalize tot a b (cs.drop kk) (vs.drop kk) (ms.drop kk) (cs.length - kk) = X2 at *
  generalize tot a b cs vs ms cs.length = X at *
  obtain ⟨p1, p2⟩ := mul_le_int (a := (ww : Int)) (b := X) (c := 16) (d := 200 * 1073676289) (by omega) (by omega) r3.1 (by omega)
  have W3 : IntKind.i64.wrap (X1 + X2) = X := by rw [hsum]; exact wrapI (by omega) (by omega)
  have W4 : IntKind.i64.wrap ((ww : Int) * X) = X * ww := by rw [Int.mul_comm X]; exact wrapI (by omega) (by omega)
  have P0 := I.p0
  have P1 := I.p1
  have P2 := I.p2
  obtain ⟨sa', sc', hs'⟩ := b1.sl.shape
  obtain ⟨ta', tc', ht'⟩ := b2.sl.shape
  obtain ⟨ua', uc', hu'⟩ := b3.sl.shape
  clear I q1 q2 q3 b1 b2 b3 back hc hv hm m1 m2 m3 m4 m5 m6 bt bl
  simp (maxSteps := 4000000) [k_guard, P0, P1, P2, T1, T2, T3, T4, T5, W0, W1, W2, ek, ew, e1, e2, e3, e4, e5, e6, W3, W4, ex_eq, fin17]
end
end Go.Proofs.Ytjpjohchdfoeaaa
