/-
  A statement whose order is open: every order comes to the same.
-/
import Derived.Test.YtlflfkdnpalhlaaSimI
namespace Go.Sim
open Go.RowKit

section
variable {P : Program} {CR : CallR} {ops : List Oper} {os : List ROper} {st : Nat → Env × Heap} {pairs : List (Nat × Nat)} {ρ0 : PMap} {a0 : Act} {w0 : World} {listed : Array Bool} {a : Act} {w : World} {ρ : PMap} {O : View} {top : Nat}

theorem put_size (a : Act) (dst : Option Tmp) (v : Value) : (a.put dst v).tmps.size = a.tmps.size := by cases dst <;> simp [Act.put]
theorem put_defers (a : Act) (dst : Option Tmp) (v : Value) : (a.put dst v).defers = a.defers := by cases dst <;> rfl

theorem inv_quiet (D : Draw P CR ops os pairs st) (I : DInv ops os st ρ0 a0 w0 listed a w ρ O top) {i : Nat} {o : Oper} {ro : ROper} (R : Ready ops os listed i o ro) (hW : ro.op.cls ≠ .W) (hA : ro.op.cls = .A → (st (i + 1)).2 = (st i).2)
    {v v' : Value} (hv : VRel ρ v v') (hst : (st (i + 1)).1 = put (st i).1 o.dst v) : DInv ops os st ρ0 a0 w0 (listed.setIfInBounds i true) (a.put o.dst v') w ρ O top := by
  have hset := fun j => isL_set (listed := listed) (i := i) (by rw [I.sz]; exact R.lt) j
  refine ⟨by simp [I.sz], down_step I R, fun j hj => ?_, I.topLe, I.topB, fun id b => ?_, I.rel, I.ev, I.same, I.fresh, by rw [put_size]; exact I.esz, tv_step D I R (PLe.refl ρ) hv hst, by rw [put_defers]; exact I.defers⟩
  · rw [hset, ← I.topW j hj]
    constructor
    · rintro (rfl | h)
      · exact absurd (clsAt_inj hj ⟨ro, R.hro, rfl⟩).symm hW
      · exact h
    · exact .inr
  · rw [I.orph id b]
    constructor
    · rintro ⟨k, h1, h2, h3, h4⟩
      exact ⟨k, h1, h2, (hset k).2 (.inr h3), h4⟩
    · rintro ⟨k, h1, h2, h3, h4, h5, h6⟩
      rcases (hset k).1 h3 with rfl | h
      · have := hA (clsAt_inj h4 ⟨ro, R.hro, rfl⟩).symm
        rw [this] at h6
        have := view_lt h6
        omega
      · exact ⟨k, h1, h2, h, h4, h5, h6⟩

theorem top_le_A (D : Draw P CR ops os pairs st) (I : DInv ops os st ρ0 a0 w0 listed a w ρ O top) {i : Nat} {o : Oper} {ro : ROper} (R : Ready ops os listed i o ro) (hA : ro.op.cls = .A) : top ≤ i := by
  rcases Nat.lt_or_ge i top with h | h
  · exfalso
    obtain ⟨k, rfl⟩ : ∃ k, top = k + 1 := ⟨top - 1, by omega⟩
    have hk := I.topB k rfl
    have hkl := clsAt_lt D.hc hk
    have hLk : isL listed k := (I.topW k hk).2 (by omega)
    rcases Nat.lt_or_ge i k with h' | h'
    · have hw := R.nowait I k hkl hLk
      obtain ⟨rk, k1, k2⟩ := hk
      have := (pair_apart (D.pair k i h' hkl) hw R.ho R.hro (by simp [hkl] : ops[k]? = some ops[k]) k1).2.2
      rw [hA, k2] at this
      simp [clsOk] at this
    · have : i = k := by omega
      subst this
      exact R.not hLk
  · exact h

theorem inv_A (D : Draw P CR ops os pairs st) (I : DInv ops os st ρ0 a0 w0 listed a w ρ O top) {i : Nat} {o : Oper} {ro : ROper} (R : Ready ops os listed i o ro) (hA : ro.op.cls = .A) {cells : List Value} {c : Array Value} {t : TypeId} {esz : Nat}
    (hh : (st (i + 1)).2 = (st i).2 ++ [some ⟨false, cells⟩]) (h1 : cells.length ≤ c.size) (h2 : ∀ v ∈ cells, isCell v = true) (h3 : ∀ (k : Nat) v, cells[k]? = some v → ∃ v', c[k]? = some v' ∧ VRel ρ v v')
    {v v' : Value} (hv : ∀ ρ' : PMap, ρ' (st i).2.length = some ⟨w.heap.size, 0, c.size, esz⟩ → VRel ρ' v v') (hst : (st (i + 1)).1 = put (st i).1 o.dst v) :
    DInv ops os st ρ0 a0 w0 (listed.setIfInBounds i true) (a.put o.dst v') { w with heap := w.heap.push (.cells c t) } (newP ρ (st i).2.length ⟨w.heap.size, 0, c.size, esz⟩) (addV O (st i).2.length ⟨false, cells⟩) top := by
  have hset := fun j => isL_set (listed := listed) (i := i) (by rw [I.sz]; exact R.lt) j
  have hti := top_le_A D I R hA
  have hil := R.lt
  have hlen1 : (st (i + 1)).2.length = (st i).2.length + 1 := by rw [hh]; simp
  have hm0 := len_mono D 0 i (by omega) (by omega)
  have hm1 := len_mono D top i hti (by omega)
  have hm2 := len_mono D (i + 1) ops.length (by omega) (by omega)
  have hvi : view (st (i + 1)).2 (st i).2.length = some ⟨false, cells⟩ := by rw [hh, view_push, if_pos rfl]
  have hOnone : O (st i).2.length = none := by
    cases hO : O (st i).2.length with
    | none => rfl
    | some b =>
      exfalso
      obtain ⟨k, k1, k2, k3, k4, k5, k6⟩ := (I.orph _ b).1 hO
      rcases Nat.lt_trichotomy k i with h | h | h
      · have := len_mono D (k + 1) i (by omega) (by omega)
        have := view_lt k6
        omega
      · subst h; exact R.not k3
      · have := len_mono D (i + 1) k (by omega) (by omega)
        omega
  have hVnone : view (st top).2 (st i).2.length = none := view_none hm1
  have hfr : ρ (st i).2.length = none := I.fresh _ hm1 (by omega) hOnone
  obtain ⟨r1, r2⟩ := rel_newV I.rel (id := (st i).2.length) (by simp [hVnone, hOnone]) hfr c t esz h1 h2 h3
  have hview : addV (fun i => (view (st top).2 i).or (O i)) (st i).2.length ⟨false, cells⟩ = fun k => (view (st top).2 k).or (addV O (st i).2.length ⟨false, cells⟩ k) := by
    funext k
    unfold addV
    by_cases hk : k = (st i).2.length
    · subst hk; simp [hVnone]
    · simp [hk]
  rw [hview] at r1 r2
  refine ⟨by simp [I.sz], down_step I R, fun j hj => ?_, I.topLe, I.topB, fun id b => ?_, r1, I.ev.trans r2, fun id hid => ?_, fun id i1 i2 i3 => ?_, by rw [put_size]; exact I.esz,
    tv_step D I R (newP_le hfr) (hv _ (newP_self _ _ _)) hst, by rw [put_defers]; exact I.defers⟩
  · rw [hset, ← I.topW j hj]
    constructor
    · rintro (rfl | h)
      · have := clsAt_inj hj ⟨ro, R.hro, rfl⟩
        rw [hA] at this; cases this
      · exact h
    · exact .inr
  · unfold addV
    by_cases hid : id = (st i).2.length
    · subst hid
      rw [if_pos rfl]
      constructor
      · intro e; injection e with e; subst e
        exact ⟨i, hti, hil, (hset i).2 (.inl rfl), ⟨ro, R.hro, hA⟩, rfl, hvi⟩
      · rintro ⟨k, k1, k2, k3, k4, k5, k6⟩
        rcases Nat.lt_trichotomy k i with h | h | h
        · exfalso
          have := len_mono D (k + 1) i (by omega) (by omega)
          have := view_lt k6
          omega
        · subst h; rw [hvi] at k6; exact k6
        · exfalso
          have := len_mono D (i + 1) k (by omega) (by omega)
          omega
    · rw [if_neg hid, I.orph id b]
      constructor
      · rintro ⟨k, h1, h2, h3, h4⟩
        exact ⟨k, h1, h2, (hset k).2 (.inr h3), h4⟩
      · rintro ⟨k, h1, h2, h3, h4, h5, h6⟩
        rcases (hset k).1 h3 with rfl | h
        · exact absurd h5.symm hid
        · exact ⟨k, h1, h2, h, h4, h5, h6⟩
  · have : id ≠ (st i).2.length := by omega
    simp only [newP, if_neg this]
    exact I.same id hid
  · unfold addV at i3
    by_cases hid : id = (st i).2.length
    · subst hid; rw [if_pos rfl] at i3; cases i3
    · rw [if_neg hid] at i3
      simp only [newP, if_neg hid]
      exact I.fresh id i1 i2 i3

theorem W_order (D : Draw P CR ops os pairs st) (I : DInv ops os st ρ0 a0 w0 listed a w ρ O top) {i : Nat} {o : Oper} {ro : ROper} (R : Ready ops os listed i o ro) (hW : ro.op.cls = .W) :
    top ≤ i ∧ (∀ k, k < i → clsAt os k .W ∨ clsAt os k .A → isL listed k) := by
  have hcl : clsAt os i .W := ⟨ro, R.hro, hW⟩
  refine ⟨?_, fun k hk hor => ?_⟩
  · rcases Nat.lt_or_ge i top with h | h
    · exact absurd ((I.topW i hcl).2 h) R.not
    · exact h
  · cases hw : waits (befs ops []) i k with
    | true => exact R.waits I k hw
    | false =>
      have hkl : k < ops.length := by have := R.lt; omega
      have hcl : ∃ rk, os[k]? = some rk ∧ (rk.op.cls = .W ∨ rk.op.cls = .A) := by
        rcases hor with ⟨rk, h1, h2⟩ | ⟨rk, h1, h2⟩
        · exact ⟨rk, h1, .inl h2⟩
        · exact ⟨rk, h1, .inr h2⟩
      obtain ⟨rk, k1, k2⟩ := hcl
      have := (pair_apart (D.pair i k hk R.lt) hw (by simp [hkl] : ops[k]? = some ops[k]) k1 R.ho R.hro).2.2
      rw [hW] at this
      rcases k2 with k2 | k2 <;> rw [k2] at this <;> simp [clsOk] at this

/-- What lies beside the writes. -/
def restO (O : View) (n : Nat) : View := fun id => if id < n then none else O id

theorem inv_W_rel (D : Draw P CR ops os pairs st) (I : DInv ops os st ρ0 a0 w0 listed a w ρ O top) {i : Nat} {o : Oper} {ro : ROper} (R : Ready ops os listed i o ro) (hW : ro.op.cls = .W) :
    (∀ id b, (view (st i).2 id).or (restO O (st (i + 1)).2.length id) = some b → (view (st top).2 id).or (O id) = some b) ∧ Fresh ρ (st i).2.length (st (i + 1)).2.length := by
  obtain ⟨hti, hord⟩ := W_order D I R hW
  have hil := R.lt
  have hm1 := len_mono D top i hti (by omega)
  have hm2 := len_mono D i (i + 1) (by omega) (by omega)
  have hm3 := len_mono D (i + 1) ops.length (by omega) (by omega)
  have hsub := view_sub D I i hti (by omega) (fun k h1 h2 hw => by have := (I.topW k hw).1 (hord k h2 (.inl hw)); omega) (fun k h1 h2 ha => hord k h2 (.inr ha))
  refine ⟨fun id b h => ?_, fun id i1 i2 => ?_⟩
  · cases hv : view (st i).2 id with
    | some x => rw [hv] at h; simp at h; subst h; exact hsub id x hv
    | none =>
      rw [hv] at h
      simp only [Option.none_or, restO] at h
      split at h
      · cases h
      · have : view (st top).2 id = none := view_none (by omega)
        simp [this, h]
  · refine I.fresh id (by omega) (by omega) ?_
    cases hO : O id with
    | none => rfl
    | some b =>
      exfalso
      obtain ⟨k, k1, k2, k3, k4, k5, k6⟩ := (I.orph _ b).1 hO
      have hlt := view_lt k6
      rcases Nat.lt_trichotomy k i with h | h | h
      · have := len_mono D (k + 1) i (by omega) (by omega)
        omega
      · subst h; exact R.not k3
      · have := len_mono D (i + 1) k (by omega) (by omega)
        omega

theorem inv_W (D : Draw P CR ops os pairs st) (I : DInv ops os st ρ0 a0 w0 listed a w ρ O top) {i : Nat} {o : Oper} {ro : ROper} (R : Ready ops os listed i o ro) (hW : ro.op.cls = .W) {ρ' : PMap} {w' : World}
    (hr : Rel ρ' (view (st (i + 1)).2) w') (hev : Ev ρ (view (st i).2) w ρ' (view (st (i + 1)).2) w') (hps : PSame ρ ρ' (st i).2.length (st (i + 1)).2.length) {v v' : Value} (hv : VRel ρ' v v') (hst : (st (i + 1)).1 = put (st i).1 o.dst v) :
    DInv ops os st ρ0 a0 w0 (listed.setIfInBounds i true) (a.put o.dst v') w' ρ' (restO O (st (i + 1)).2.length) (i + 1) := by
  have hset := fun j => isL_set (listed := listed) (i := i) (by rw [I.sz]; exact R.lt) j
  obtain ⟨hti, hord⟩ := W_order D I R hW
  obtain ⟨hsub, hfr⟩ := inv_W_rel D I R hW
  have hil := R.lt
  have hm0 := len_mono D 0 i (by omega) (by omega)
  have hm1 := len_mono D top i hti (by omega)
  have hm2 := len_mono D i (i + 1) (by omega) (by omega)
  have hm3 := len_mono D (i + 1) ops.length (by omega) (by omega)
  have hle := hps.le hfr
  have hdis : ∀ k b, restO O (st (i + 1)).2.length k = some b → view (st i).2 k = none := by
    intro k b h
    unfold restO at h
    split at h
    · cases h
    · exact view_none (by omega)
  have hrs : Rel ρ (fun k => (view (st i).2 k).or (restO O (st (i + 1)).2.length k)) w := I.rel.sub hsub
  have hsame : ∀ k b, restO O (st (i + 1)).2.length k = some b → ρ' k = ρ k := by
    intro k b h
    unfold restO at h
    split at h
    · cases h
    · exact hps k (.inr (by omega))
  have hrel' := Rel.frame hrs hdis hr hev hle
  have hev' := (I.ev.sub hsub).trans (hev.beside hdis hsame)
  refine ⟨by simp [I.sz], down_step I R, fun j hj => ?_, by omega, fun k hk => ?_, fun id b => ?_, hrel', hev', fun id hid => ?_, fun id i1 i2 i3 => ?_, by rw [put_size]; exact I.esz, tv_step D I R hle hv hst, by rw [put_defers]; exact I.defers⟩
  · rw [hset]
    constructor
    · rintro (rfl | h)
      · omega
      · have := (I.topW j hj).1 h; omega
    · intro h
      by_cases hji : j = i
      · exact .inl hji
      · exact .inr (hord j (by omega) (.inl hj))
  · obtain rfl : i = k := by omega
    exact ⟨ro, R.hro, hW⟩
  · constructor
    · intro h
      unfold restO at h
      split at h
      · cases h
      · obtain ⟨k, k1, k2, k3, k4, k5, k6⟩ := (I.orph _ b).1 h
        have hlt := view_lt k6
        rcases Nat.lt_trichotomy k i with h' | h' | h'
        · exfalso
          have := len_mono D (k + 1) i (by omega) (by omega)
          omega
        · subst h'; exact absurd k3 R.not
        · exact ⟨k, by omega, k2, (hset k).2 (.inr k3), k4, k5, k6⟩
    · rintro ⟨k, k1, k2, k3, k4, k5, k6⟩
      have hk : isL listed k := ((hset k).1 k3).resolve_left (by omega)
      have := len_mono D (i + 1) k (by omega) (by omega)
      unfold restO
      rw [if_neg (by omega)]
      exact (I.orph id b).2 ⟨k, by omega, k2, hk, k4, k5, k6⟩
  · rw [hps id (by omega)]
    exact I.same id hid
  · rw [hps id (.inr i1)]
    unfold restO at i3
    rw [if_neg (by omega)] at i3
    exact I.fresh id (by omega) i2 i3

theorem least_of {p : Nat → Prop} : ∀ n : Nat, p n → ∃ m, m ≤ n ∧ p m ∧ ∀ k, k < m → ¬ p k := by
  intro n
  induction n using Nat.strongRecOn with
  | _ n ih =>
    intro hp
    by_cases h : ∃ k, k < n ∧ p k
    · obtain ⟨k, hk, hpk⟩ := h
      obtain ⟨m, h1, h2, h3⟩ := ih k hk hpk
      exact ⟨m, by omega, h2, h3⟩
    · exact ⟨n, Nat.le_refl n, hp, fun k hk hpk => h ⟨k, hk, hpk⟩⟩

/-- A load in the middle reads what it reads in the text's order. -/
theorem load_mid (D : Draw P CR ops os pairs st) (I : DInv ops os st ρ0 a0 w0 listed a w ρ O top) {i : Nat} {o : Oper} {ro : ROper} (R : Ready ops os listed i o ro) {n : Nat} {agg : Bool} {x : Operand} (hop : ro.op = .load n agg x)
    (hw : wanted ro (st i).1 = true) {v : Value} (hl : loadV (st i).2 n agg (ev (st i).1 x) = some v) :
    ∃ j, loadV (st j).2 n agg (ev (st i).1 x) = some v ∧ Rel ρ (view (st j).2) w := by
  have hil := R.lt
  have hcl : ro.op.cls = .L := by rw [hop]; rfl
  have hA : ∀ k, k < i → clsAt os k .A → isL listed k := by
    intro k hk ⟨rk, k1, k2⟩
    cases hw : waits (befs ops []) i k with
    | true => exact R.waits I k hw
    | false =>
      have hkl : k < ops.length := by omega
      have := (pair_apart (D.pair i k hk hil) hw (by simp [hkl] : ops[k]? = some ops[k]) k1 R.ho R.hro).2.2
      rw [hcl, k2] at this
      simp [clsOk] at this
  rcases Nat.lt_or_ge i top with htop | htop
  · -- the last write that was carried out stands behind the load
    obtain ⟨k, rfl⟩ : ∃ k, top = k + 1 := ⟨top - 1, by omega⟩
    have hk := I.topB k rfl
    have hkl := clsAt_lt D.hc hk
    have hLk : isL listed k := (I.topW k hk).2 (by omega)
    have hik : i < k := by
      rcases Nat.lt_or_ge i k with h | h
      · exact h
      · have : i = k := by omega
        subst this; exact absurd hLk R.not
    have hwt := R.nowait I k hkl hLk
    obtain ⟨rk, k1, k2⟩ := hk
    have hpr := (pair_apart (D.pair k i hik hkl) hwt R.ho R.hro (by simp [hkl] : ops[k]? = some ops[k]) k1).2.2
    rw [hcl, k2] at hpr
    simp only [clsOk, List.any_eq_true, Bool.and_eq_true, beq_iff_eq] at hpr
    obtain ⟨⟨p1, p2⟩, hp, rfl, rfl⟩ := hpr
    refine ⟨p2 + 1, ?_, I.rel.sub (fun id b h => by simp [h])⟩
    have := D.chk p1 p2 hp ro rk n agg x v R.hro k1 hop k2 hw hl
    rwa [if_pos hik] at this
  · -- no write that was carried out stands behind it
    by_cases hex : ∃ k, top ≤ k ∧ k < i ∧ clsAt os k .W
    · obtain ⟨k0, hk0⟩ := hex
      obtain ⟨k, _, ⟨h1, h2, h3⟩, hno⟩ := least_of (p := fun k => top ≤ k ∧ k < i ∧ clsAt os k .W) k0 hk0
      have hkl := clsAt_lt D.hc h3
      have hnL : ¬ isL listed k := fun h => by have := (I.topW k h3).1 h; omega
      have hwt : waits (befs ops []) i k = false := by
        cases hw : waits (befs ops []) i k with
        | false => rfl
        | true => exact absurd (R.waits I k hw) hnL
      obtain ⟨rk, k1, k2⟩ := h3
      have hpr := (pair_apart (D.pair i k h2 hil) hwt (by simp [hkl] : ops[k]? = some ops[k]) k1 R.ho R.hro).2.2
      rw [hcl, k2] at hpr
      simp only [clsOk, List.any_eq_true, Bool.and_eq_true, beq_iff_eq] at hpr
      obtain ⟨⟨p1, p2⟩, hp, rfl, rfl⟩ := hpr
      have := D.chk p1 p2 hp ro rk n agg x v R.hro k1 hop k2 hw hl
      rw [if_neg (by omega)] at this
      exact ⟨p2, this, I.rel.sub (view_sub D I p2 h1 (by omega) (fun k q1 q2 q3 => hno k q2 ⟨q1, by omega, q3⟩) (fun k q1 q2 q3 => hA k (by omega) q3))⟩
    · exact ⟨i, hl, I.rel.sub (view_sub D I i htop (by omega) (fun k h1 h2 hk => hex ⟨k, h1, h2, hk⟩) (fun k h1 h2 hk => hA k h2 hk))⟩

theorem mem_tmpsOf {t : Tmp} : ∀ l : List Operand, Operand.tmp t ∈ l → t ∈ tmpsOf l
  | [], h => by cases h
  | y :: l, h => by
    rcases List.mem_cons.1 h with e | h
    · subst e; simp [tmpsOf]
    · have := mem_tmpsOf l h
      cases y <;> simp [tmpsOf, this]

/-- How many operations are still to come. -/
def toCome (n : Nat) (listed : Array Bool) : Nat := ((List.range n).filter fun i => !listed.getD i false).length

theorem toCome_set {n : Nat} (hsz : listed.size = n) {i : Nat} (hi : i < n) (hn : ¬ isL listed i) : toCome n (listed.setIfInBounds i true) < toCome n listed := by
  unfold toCome
  have hset := fun j => isL_set (listed := listed) (i := i) (by omega) j
  have hsub : ∀ j, (!(listed.setIfInBounds i true).getD j false) = true → (!listed.getD j false) = true := by
    intro j h
    have := hset j
    unfold isL at this
    cases hb : listed.getD j false with
    | false => rfl
    | true =>
      have := this.2 (.inr hb)
      rw [this] at h; cases h
  have key : ∀ l : List Nat, (l.filter fun j => !(listed.setIfInBounds i true).getD j false).length ≤ (l.filter fun j => !listed.getD j false).length ∧
      (i ∈ l → (l.filter fun j => !(listed.setIfInBounds i true).getD j false).length < (l.filter fun j => !listed.getD j false).length) := by
    intro l
    induction l with
    | nil => exact ⟨Nat.le_refl _, fun h => by simp at h⟩
    | cons x l ih =>
      simp only [List.filter_cons]
      by_cases hx : (!(listed.setIfInBounds i true).getD x false) = true
      · have hx' := hsub x hx
        rw [if_pos hx, if_pos hx']
        refine ⟨by rw [List.length_cons, List.length_cons]; have := ih.1; omega, fun hm => ?_⟩
        rcases List.mem_cons.1 hm with e | hm
        · subst e
          exfalso
          have := (hset i).2 (.inl rfl)
          unfold isL at this
          rw [this] at hx; cases hx
        · have := ih.2 hm; rw [List.length_cons, List.length_cons]; omega
      · rw [if_neg hx]
        split
        · refine ⟨by rw [List.length_cons]; have := ih.1; omega, fun _ => by rw [List.length_cons]; have := ih.1; omega⟩
        · rename_i h2
          refine ⟨ih.1, fun hm => ?_⟩
          rcases List.mem_cons.1 hm with e | hm
          · subst e
            exfalso
            apply h2
            unfold isL at hn
            cases hb : listed.getD i false with
            | false => rfl
            | true => exact absurd hb hn
          · exact ih.2 hm
  exact (key (List.range n)).2 (by simpa using hi)

/-- **A STATEMENT WHOSE ORDER IS OPEN.** -/
theorem region_draw (D : Draw P CR ops os pairs st) : ∀ (fuel : Nat) (listed : Array Bool) (a : Act) (w : World) (ρ : PMap) (O : View) (top : Nat), DInv ops os st ρ0 a0 w0 listed a w ρ O top → toCome ops.length listed ≤ fuel →
    wpAny P .any ops.toArray (fun x a' w' => x = .normal ∧ After ρ0 (st 0).2 w0 a0 (st ops.length).1 (st ops.length).2 a' w') fuel listed a w := by
  -- all have come up
  have done : ∀ (listed : Array Bool) (a : Act) (w : World) (ρ : PMap) (O : View) (top : Nat), DInv ops os st ρ0 a0 w0 listed a w ρ O top → (∀ i, i < ops.length → isL listed i) → After ρ0 (st 0).2 w0 a0 (st ops.length).1 (st ops.length).2 a w := by
    intro listed a w ρ O top I hall
    have hsub := view_sub D I ops.length I.topLe (Nat.le_refl _) (fun k h1 h2 hk => by have := (I.topW k hk).1 (hall k h2); omega) (fun k h1 h2 _ => hall k h2)
    refine ⟨ρ, ⟨by rw [env_size D.hc D.hst ops.length (Nat.le_refl _)]; exact I.esz, fun t => I.env t _ ?_⟩, I.rel.sub hsub, I.ev.sub hsub, I.same, len_mono D 0 ops.length (by omega) (Nat.le_refl _), I.defers⟩
    rcases last_writer ops t ops.length with ⟨k, h1, h2, h3⟩ | h
    · refine .inl ⟨k, h1, hall k h1, h2, fun j hj _ hd => ?_, env_at D.hc D.hst t ops.length (by omega) (Nat.le_refl _) (fun j j1 j2 => h3 j (by omega) j2)⟩
      rcases Nat.lt_or_ge k j with h' | h'
      · exact absurd hd (h3 j h' hj)
      · exact h'
    · exact .inr ⟨fun j hj _ => h j hj, env_at D.hc D.hst t ops.length (by omega) (Nat.le_refl _) (fun j _ j2 => h j j2)⟩
  -- who has not come up is ready, or waits for one that is
  have hedge : ∀ (i : Nat) o, ops[i]? = some o → ∀ e ∈ o.after.toList, Region.binds .any e = true → e.on < i := by
    intro i o ho e he hb
    have h := D.edges
    unfold edgesOk at h
    rw [List.all_eq_true] at h
    have := h i (by simpa using (List.getElem?_eq_some_iff.1 ho).1)
    rw [ho] at this
    simp only [List.all_eq_true] at this
    have := this e he
    simpa [hb] using this
  have hready : ∀ (listed : Array Bool) (a : Act) (w : World) (ρ : PMap) (O : View) (top : Nat), DInv ops os st ρ0 a0 w0 listed a w ρ O top → Region.ready .any ops.toArray listed = [] → ∀ i, i < ops.length → isL listed i := by
    intro listed a w ρ O top I hr i
    induction i using Nat.strongRecOn with
    | _ i ih =>
      intro hi
      apply Classical.byContradiction
      intro hn
      have : i ∈ Region.ready .any ops.toArray listed := (ready_iff I.sz).2 ⟨ops[i], by simp [hi], hn, fun e he hb => by
        have := hedge i ops[i] (by simp [hi]) e he hb
        exact ih e.on this (by omega)⟩
      rw [hr] at this; cases this
  intro fuel
  induction fuel with
  | zero =>
    intro listed a w ρ O top I hcnt
    have hall : ∀ i, i < ops.length → isL listed i := by
      intro i hi
      apply Classical.byContradiction
      intro hn
      have := toCome_set I.sz hi hn
      omega
    refine ⟨?_, rfl, done listed a w ρ O top I hall⟩
    rw [List.eq_nil_iff_forall_not_mem]
    intro i hi
    obtain ⟨o, ho, hn, _⟩ := (ready_iff I.sz).1 hi
    exact hn (hall i (List.getElem?_eq_some_iff.1 ho).1)
  | succ fuel ih =>
    intro listed a w ρ O top I hcnt
    refine ⟨fun hr => ⟨rfl, done listed a w ρ O top I (hready listed a w ρ O top I hr)⟩, fun i hi => ?_⟩
    obtain ⟨o, ho, hn, hed⟩ := (ready_iff I.sz).1 hi
    have hil : i < ops.length := (List.getElem?_eq_some_iff.1 ho).1
    obtain ⟨hlen, hget⟩ := allC_get D.hc
    obtain ⟨ro, hro, hcomp⟩ := hget i o ho
    obtain ⟨hop, hdst, hok⟩ := opsOk hcomp
    have R : Ready ops os listed i o ro := ⟨ho, hro, hil, hn, hed⟩
    have hcnt' : toCome ops.length (listed.setIfInBounds i true) ≤ fuel := by have := toCome_set I.sz hil hn; omega
    have next : ∀ (a' : Act) (w' : World) (ρ' : PMap) (O' : View) (top' : Nat), DInv ops os st ρ0 a0 w0 (listed.setIfInBounds i true) a' w' ρ' O' top' →
        wpAny P .any ops.toArray (fun x a' w' => x = .normal ∧ After ρ0 (st 0).2 w0 a0 (st ops.length).1 (st ops.length).2 a' w') fuel (listed.setIfInBounds i true) a' w' :=
      fun a' w' ρ' O' top' I' => ih _ a' w' ρ' O' top' I' hcnt'
    have hsz : (st i).1.size = a.tmps.size := by rw [env_size D.hc D.hst i (by omega)]; exact I.esz
    have hopnd : ∀ x ∈ o.op.operands, VRel ρ (ev (st i).1 x) (a.eval x) := by
      intro x hx
      refine ev_rel (hok x hx) (fun t ht => I.env t _ (tv_ready D I R ?_))
      subst ht
      unfold looks
      refine List.mem_append_left _ ?_
      exact mem_tmpsOf _ (by simpa using hx)
    have hw := wanted_rel (ops := ops) (e := (st i).1) hcomp hsz (fun t ht => I.env t _ (tv_ready D I R (List.mem_append_right _ ht)))
    unfold wpOp
    have hgi : (ops.toArray)[i]? = some o := by simpa using ho
    rw [hgi]
    simp only
    rcases D.hst i ro hro with ⟨hwt, hs⟩ | ⟨hwt, v, hs1, hs2⟩
    · -- it is passed by
      rw [hw, hwt]
      simp only [Bool.false_eq_true, if_false]
      have he : (st (i + 1)).1 = put (st i).1 o.dst undef := by rw [hs, hdst]
      have hh : (st (i + 1)).2 = (st i).2 := by rw [hs]
      by_cases hW : ro.op.cls = .W
      · obtain ⟨hsub, _⟩ := inv_W_rel D I R hW
        refine next _ _ _ _ _ (inv_W D I R hW (ρ' := ρ) (w' := w) ?_ ?_ (PSame.refl _ _ _) (undef_rel ρ) he)
        · rw [hh]; exact I.rel.sub (fun id b h => hsub id b (by simp [h]))
        · rw [hh]; exact Ev.refl _ _ _
      · exact next _ _ _ _ _ (inv_quiet D I R hW (fun _ => hh) (undef_rel ρ) he)
    · rw [hw, hwt]
      simp only [if_true]
      refine .inl ?_
      have he : (st (i + 1)).1 = put (st i).1 o.dst v := by rw [hs1, hdst]
      cases hcls : ro.op.cls with
      | P =>
        obtain ⟨hh, v', h1, h2⟩ := simP hop hcls hopnd (OpR_P hs2 (by rw [hcls]; simp))
        exact wp_of_value (h1 w o.dst o.type o.pos o.after o.guard) (next _ _ _ _ _ (inv_quiet D I R (by rw [hcls]; simp) (by rw [hcls]; simp) h2 he))
      | L =>
        have hs3 := OpR_P hs2 (by rw [hcls]; simp)
        obtain ⟨t, x, hopx⟩ := (cls_of hop).1 hcls
        have hrop : ∃ n g, ro.op = .load n g x ∧ aggT P t = some g ∧ sizeT P t = some n := by
          rw [hopx] at hop
          simp only [compileOp] at hop
          split at hop <;> try cases hop
          rename_i g n hg hn
          injection hop with hop
          exact ⟨n, g, hop.symm, hg, hn⟩
        obtain ⟨n, g, hrop, hg, hn⟩ := hrop
        rw [hrop] at hs3
        simp only [stepOp] at hs3
        split at hs3 <;> try cases hs3
        rename_i hl
        injection hs3 with hs3; injection hs3 with e1 e2
        subst e1
        obtain ⟨j, hlj, hrj⟩ := load_mid D I R hrop hwt hl
        have hx := hopnd x (by rw [hopx]; simp [Op.operands])
        obtain ⟨v', h1, h2⟩ := loadVar_run (P := P) hg hn hrj hx hlj
        refine wp_of_value (v' := v') (w' := w) ?_ (next _ _ _ _ _ (inv_quiet D I R (by rw [hcls]; simp) (by rw [hcls]; simp) h2 he))
        simp [execOp, hopx, h1]
      | A =>
        have hs3 := OpR_P hs2 (by rw [hcls]; simp)
        obtain ⟨cells, c, t, esz, mk, hh, h1, h2, h3, h4, h5⟩ := simA hop hcls hopnd hs3
        exact wp_of_value (h4 w o.dst o.type o.pos o.after o.guard) (next _ _ _ _ _ (inv_A D I R hcls hh h1 h2 h3 (fun ρ' hρ => h5 ρ' _ hρ) he))
      | W =>
        obtain ⟨hsub, hfr⟩ := inv_W_rel D I R hcls
        have hr : Rel ρ (view (st i).2) w := I.rel.sub (fun id b h => hsub id b (by simp [h]))
        refine opSim D.sim hop hopnd hr hs2 hfr ?_
        intro v' w' ρ' h1 h2 h3 h4 h5
        exact next _ _ _ _ _ (inv_W D I R hcls h2 h3 h4 h1 he)
end
end Go.Sim
