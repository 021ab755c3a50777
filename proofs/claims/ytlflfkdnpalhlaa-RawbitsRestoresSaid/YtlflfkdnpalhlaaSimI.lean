/-
  A statement whose order is open.
-/
import Derived.Test.YtlflfkdnpalhlaaSimH
namespace Go.Sim
open Go.RowKit

theorem bef1_spec (acc : List Nat) : ∀ (l : List Edge) (s j : Nat), (bef1 acc l s).testBit j = (s.testBit j || l.any fun e => Region.binds .any e && (e.on == j || (acc.getD e.on 0).testBit j))
  | [], s, j => by simp [bef1]
  | e :: r, s, j => by
    rw [bef1, bef1_spec acc r]
    cases hb : Region.binds .any e with
    | true => simp only [hb, Nat.testBit_or, Nat.testBit_two_pow, List.any_cons, Bool.true_and, Bool.or_assoc]; rfl
    | false => simp [hb]

theorem befs_spec : ∀ (ops : List Oper) (acc : List Nat), ∃ t, befs ops acc = acc ++ t ∧ t.length = ops.length ∧ ∀ (k : Nat) o, ops[k]? = some o → t.getD k 0 = bef1 (acc ++ t.take k) o.after.toList 0
  | [], acc => ⟨[], by simp [befs], rfl, fun k o h => by simp at h⟩
  | o :: os, acc => by
    obtain ⟨t, h1, h2, h3⟩ := befs_spec os (acc ++ [bef1 acc o.after.toList 0])
    refine ⟨bef1 acc o.after.toList 0 :: t, by rw [befs, h1]; simp, by simp [h2], fun k o' hk => ?_⟩
    cases k with
    | zero => simp at hk; subst hk; simp
    | succ k =>
      have := h3 k o' (by simpa using hk)
      simpa using this

theorem waits_spec {ops : List Oper} {i j : Nat} {o : Oper} (ho : ops[i]? = some o) (hw : waits (befs ops []) i j = true) :
    ∃ e ∈ o.after.toList, Region.binds .any e = true ∧ (e.on = j ∨ (e.on < i ∧ waits (befs ops []) e.on j = true)) := by
  obtain ⟨t, h1, h2, h3⟩ := befs_spec ops []
  simp only [List.nil_append] at h1 h3
  unfold waits at hw ⊢
  rw [h1, h3 i o ho, bef1_spec] at hw
  simp only [Nat.zero_testBit, Bool.false_or, List.any_eq_true, Bool.and_eq_true, Bool.or_eq_true, beq_iff_eq] at hw
  obtain ⟨e, he, hb, hor⟩ := hw
  refine ⟨e, he, hb, hor.imp id fun h => ?_⟩
  rw [h1]
  by_cases hlt : e.on < i
  · refine ⟨hlt, ?_⟩
    have : (t.take i).getD e.on 0 = t.getD e.on 0 := by
      simp only [List.getD_eq_getElem?_getD, List.getElem?_take, if_pos hlt]
    rwa [this] at h
  · have : (t.take i).getD e.on 0 = 0 := by
      simp only [List.getD_eq_getElem?_getD, List.getElem?_take, if_neg hlt]
      rfl
    rw [this] at h
    simp at h

def isL (listed : Array Bool) (i : Nat) : Prop := listed.getD i false = true

theorem waits_closed {ops : List Oper} {listed : Array Bool} (hd : ∀ (i : Nat) o, ops[i]? = some o → isL listed i → ∀ e ∈ o.after.toList, Region.binds .any e = true → isL listed e.on) :
    ∀ (i : Nat) o, ops[i]? = some o → (∀ e ∈ o.after.toList, Region.binds .any e = true → isL listed e.on) → ∀ j, waits (befs ops []) i j = true → isL listed j := by
  intro i
  induction i using Nat.strongRecOn with
  | _ i ih =>
    intro o ho hall j hw
    obtain ⟨e, he, hb, hor⟩ := waits_spec ho hw
    rcases hor with rfl | ⟨hlt, hw'⟩
    · exact hall e he hb
    · have hil : i < ops.length := (List.getElem?_eq_some_iff.1 ho).1
      have ho' : ops[e.on]? = some (ops[e.on]'(by omega)) := by simp [show e.on < ops.length by omega]
      exact ih e.on hlt _ ho' (hd e.on _ ho' (hall e he hb)) j hw'

theorem isL_set {listed : Array Bool} {i : Nat} (hi : i < listed.size) (j : Nat) : isL (listed.setIfInBounds i true) j ↔ j = i ∨ isL listed j := by
  unfold isL
  simp only [Array.getD_eq_getD_getElem?, Array.getElem?_setIfInBounds]
  by_cases h : i = j
  · subst h; simp [hi]
  · simp [h]
    intro e; exact absurd e.symm h

def dstAt (ops : List Oper) (i : Nat) : Option Tmp := (ops[i]?).bind (·.dst)
def clsAt (os : List ROper) (i : Nat) (c : Cls) : Prop := ∃ o, os[i]? = some o ∧ o.op.cls = c

/-- The last that writes a temporary. -/
theorem last_writer (ops : List Oper) (t : Tmp) : ∀ k : Nat, (∃ i, i < k ∧ dstAt ops i = some t ∧ ∀ j, i < j → j < k → dstAt ops j ≠ some t) ∨ (∀ j, j < k → dstAt ops j ≠ some t)
  | 0 => .inr fun j h => absurd h (by omega)
  | k + 1 => by
    by_cases hk : dstAt ops k = some t
    · exact .inl ⟨k, by omega, hk, fun j h1 h2 => by omega⟩
    · rcases last_writer ops t k with ⟨i, h1, h2, h3⟩ | h
      · refine .inl ⟨i, by omega, h2, fun j j1 j2 => ?_⟩
        by_cases hj : j = k
        · subst hj; exact hk
        · exact h3 j j1 (by omega)
      · refine .inr fun j hj => ?_
        by_cases hjk : j = k
        · subst hjk; exact hk
        · exact h j (by omega)

section
variable {P : Program} {CR : CallR} {ops : List Oper} {os : List ROper} {st : Nat → Env × Heap}

theorem step_env (hc : allC (compileOper P ops) ops = some os) (hst : ∀ (i : Nat) o, os[i]? = some o → StepR CR o (st i) (st (i + 1))) {i : Nat} (hi : i < ops.length) :
    (∃ v, (st (i + 1)).1 = put (st i).1 (dstAt ops i) v) ∧ (st (i + 1)).1.size = (st i).1.size ∧ ∀ t, dstAt ops i ≠ some t → (st (i + 1)).1.getD t undef = (st i).1.getD t undef := by
  obtain ⟨hlen, hget⟩ := allC_get hc
  obtain ⟨ro, hro, hco⟩ := hget i ops[i] (by simp [hi])
  obtain ⟨_, hdst, _⟩ := opsOk hco
  have hd : dstAt ops i = ro.dst := by simp [dstAt, hi, hdst]
  have key : ∃ v, (st (i + 1)).1 = put (st i).1 (dstAt ops i) v := by
    rcases hst i ro hro with ⟨_, h⟩ | ⟨_, v, h, _⟩
    · exact ⟨undef, by rw [h, hd]⟩
    · exact ⟨v, by rw [h, hd]⟩
  refine ⟨key, ?_, fun t ht => ?_⟩
  · obtain ⟨v, h⟩ := key
    rw [h]
    unfold put
    split <;> simp
  · obtain ⟨v, h⟩ := key
    rw [h]
    unfold put
    split
    · rename_i d hd'
      rw [getD_put, if_neg]
      intro ⟨e, _⟩
      subst e
      exact ht hd'
    · rfl

theorem env_at (hc : allC (compileOper P ops) ops = some os) (hst : ∀ (i : Nat) o, os[i]? = some o → StepR CR o (st i) (st (i + 1))) (t : Tmp) {i : Nat} :
    ∀ k, i ≤ k → k ≤ ops.length → (∀ j, i ≤ j → j < k → dstAt ops j ≠ some t) → (st k).1.getD t undef = (st i).1.getD t undef := by
  intro k hik
  induction hik with
  | refl => intro _ _; rfl
  | @step k hik ih =>
    intro hk hno
    rw [((step_env hc hst (show k < ops.length from hk)).2.2 t (hno k hik (by exact Nat.lt_succ_self k)))]
    exact ih (by exact Nat.le_of_succ_le hk) (fun j h1 h2 => hno j h1 (Nat.lt_succ_of_lt h2))

theorem env_size (hc : allC (compileOper P ops) ops = some os) (hst : ∀ (i : Nat) o, os[i]? = some o → StepR CR o (st i) (st (i + 1))) : ∀ k, k ≤ ops.length → (st k).1.size = (st 0).1.size
  | 0, _ => rfl
  | k + 1, hk => by rw [(step_env hc hst (show k < ops.length from hk)).2.1]; exact env_size hc hst k (by omega)

/-- The value of a temporary, as far as operations were carried out. -/
def TV (ops : List Oper) (st : Nat → Env × Heap) (listed : Array Bool) (t : Tmp) (x : Value) : Prop :=
  (∃ i, i < ops.length ∧ isL listed i ∧ dstAt ops i = some t ∧ (∀ j, j < ops.length → isL listed j → dstAt ops j = some t → j ≤ i) ∧ x = (st (i + 1)).1.getD t undef) ∨
  ((∀ j, j < ops.length → isL listed j → dstAt ops j ≠ some t) ∧ x = (st 0).1.getD t undef)

structure Draw (P : Program) (CR : CallR) (ops : List Oper) (os : List ROper) (pairs : List (Nat × Nat)) (st : Nat → Env × Heap) : Prop where
  hc : allC (compileOper P ops) ops = some os
  edges : edgesOk ops = true
  pair : ∀ i j, j < i → i < ops.length → pairOk (befs ops []) pairs ops os j i = true
  hst : ∀ (i : Nat) o, os[i]? = some o → StepR CR o (st i) (st (i + 1))
  chk : ∀ l j, (l, j) ∈ pairs → ∀ ol oj n agg x v, os[l]? = some ol → os[j]? = some oj → ol.op = .load n agg x → oj.op.cls = .W → wanted ol (st l).1 = true → loadV (st l).2 n agg (ev (st l).1 x) = some v →
    loadV (if l < j then (st (j + 1)).2 else (st j).2) n agg (ev (st l).1 x) = some v
  mono : ∀ g vs h v h', CR g vs h v h' → h.length ≤ h'.length
  sim : CallSim P CR

/-- What is known in the middle. -/
structure DInv (ops : List Oper) (os : List ROper) (st : Nat → Env × Heap) (ρ0 : PMap) (a0 : Act) (w0 : World) (listed : Array Bool) (a : Act) (w : World) (ρ : PMap) (O : View) (top : Nat) : Prop where
  sz : listed.size = ops.length
  down : ∀ (i : Nat) o, ops[i]? = some o → isL listed i → ∀ e ∈ o.after.toList, Region.binds .any e = true → isL listed e.on
  topW : ∀ j, clsAt os j .W → (isL listed j ↔ j < top)
  topLe : top ≤ ops.length
  topB : ∀ k, top = k + 1 → clsAt os k .W
  orph : ∀ id b, O id = some b ↔ ∃ i, top ≤ i ∧ i < ops.length ∧ isL listed i ∧ clsAt os i .A ∧ (st i).2.length = id ∧ view (st (i + 1)).2 id = some b
  rel : Rel ρ (fun i => (view (st top).2 i).or (O i)) w
  ev : Ev ρ0 (view (st 0).2) w0 ρ (fun i => (view (st top).2 i).or (O i)) w
  same : ∀ id, (id < (st 0).2.length ∨ (st ops.length).2.length ≤ id) → ρ id = ρ0 id
  fresh : ∀ id, (st top).2.length ≤ id → id < (st ops.length).2.length → O id = none → ρ id = none
  esz : (st 0).1.size = a.tmps.size
  env : ∀ t x, TV ops st listed t x → VRel ρ x (a.tmps.getD t undef)
  defers : a.defers = a0.defers

theorem pair_apart {B : List Nat} {pairs : List (Nat × Nat)} {j i : Nat} (h : pairOk B pairs ops os j i = true) (hw : waits B i j = false) {pj pi : Oper} {oj oi : ROper} (h1 : ops[j]? = some pj) (h2 : os[j]? = some oj) (h3 : ops[i]? = some pi) (h4 : os[i]? = some oi) :
    (∀ d, oj.dst = some d → d ∉ looks pi oi ∧ oi.dst ≠ some d) ∧ (∀ d, oi.dst = some d → d ∉ looks pj oj) ∧ clsOk pairs j i oj.op.cls oi.op.cls = true := by
  unfold pairOk at h
  rw [hw, h1, h2, h3, h4] at h
  simp only [Bool.false_or, Bool.and_eq_true, tmpsApart] at h
  obtain ⟨⟨ha, hb⟩, hcl⟩ := h
  refine ⟨fun d hd => ?_, fun d hd => ?_, hcl⟩
  · rw [hd] at ha
    simp only [Bool.and_eq_true, Bool.not_eq_true'] at ha
    refine ⟨by simpa using ha.1, fun hdi => ?_⟩
    rw [hdi] at ha
    simp at ha
  · rw [hd] at hb
    simpa using hb

section
variable {pairs : List (Nat × Nat)} {ρ0 : PMap} {a0 : Act} {w0 : World} {listed : Array Bool} {a : Act} {w : World} {ρ : PMap} {O : View} {top : Nat}

theorem ready_iff {i : Nat} (hsz : listed.size = ops.length) : i ∈ Region.ready .any ops.toArray listed ↔ ∃ o, ops[i]? = some o ∧ ¬ isL listed i ∧ ∀ e ∈ o.after.toList, Region.binds .any e = true → isL listed e.on := by
  unfold Region.ready isL
  simp only [List.size_toArray, List.mem_filter, List.mem_range, Bool.and_eq_true, Bool.not_eq_true', List.getElem?_toArray]
  constructor
  · rintro ⟨h1, h2, h3⟩
    have ho : ops[i]? = some ops[i] := by simp [h1]
    refine ⟨ops[i], ho, ?_, fun e he hb => ?_⟩
    · have hi : i < listed.size := by omega
      have : listed.getD i true = listed.getD i false := by simp [hi]
      rw [← this, h2]; simp
    · rw [ho] at h3
      simp only [Option.map_some, Option.getD_some, Array.all_eq_true] at h3
      obtain ⟨k, hk, rfl⟩ := List.getElem_of_mem he
      have := h3 k (by simpa using hk)
      have hb' : Region.binds .any ops[i].after[k] = true := by simpa using hb
      simpa [hb'] using this
  · rintro ⟨o, ho, h1, h2⟩
    have hil : i < ops.length := (List.getElem?_eq_some_iff.1 ho).1
    refine ⟨hil, ?_, ?_⟩
    · have hi : i < listed.size := by omega
      have : listed.getD i true = listed.getD i false := by simp [hi]
      rw [this]; simpa using h1
    · rw [ho]
      simp only [Option.map_some, Option.getD_some, Array.all_eq_true]
      intro k hk
      cases hb : Region.binds .any o.after[k] with
      | false => simp
      | true =>
        have := h2 o.after[k] (by simp) hb
        simpa using this

theorem clsAt_of (hc : allC (compileOper P ops) ops = some os) {i : Nat} (hi : i < ops.length) : ∃ c, clsAt os i c := by
  obtain ⟨hlen, hget⟩ := allC_get hc
  obtain ⟨ro, hro, _⟩ := hget i ops[i] (by simp [hi])
  exact ⟨_, ro, hro, rfl⟩
theorem clsAt_lt (hc : allC (compileOper P ops) ops = some os) {i : Nat} {c : Cls} (h : clsAt os i c) : i < ops.length := by
  obtain ⟨o, ho, _⟩ := h
  have := (List.getElem?_eq_some_iff.1 ho).1
  rw [(allC_get hc).1] at this
  exact this
theorem clsAt_inj {i : Nat} {c c' : Cls} (h : clsAt os i c) (h' : clsAt os i c') : c = c' := by
  obtain ⟨o, h1, h2⟩ := h
  obtain ⟨o', h1', h2'⟩ := h'
  rw [h1] at h1'; injection h1' with e; subst e
  rw [← h2, ← h2']

/-- What one operation makes of the heap, by its class. -/
theorem heap_step (D : Draw P CR ops os pairs st) {i : Nat} {c : Cls} (hcl : clsAt os i c) : (c ≠ .W → c ≠ .A → (st (i + 1)).2 = (st i).2) ∧
    (c = .A → (st (i + 1)).2 = (st i).2 ∨ ∃ cells, (st (i + 1)).2 = (st i).2 ++ [some ⟨false, cells⟩]) := by
  obtain ⟨ro, hro, hco⟩ := hcl
  have hil := clsAt_lt D.hc ⟨ro, hro, hco⟩
  obtain ⟨hlen, hget⟩ := allC_get D.hc
  obtain ⟨ro', hro', hcomp⟩ := hget i ops[i] (by simp [hil])
  rw [hro] at hro'; injection hro' with e; subst e
  obtain ⟨hop, _, _⟩ := opsOk hcomp
  rcases D.hst i ro hro with ⟨_, h⟩ | ⟨_, v, h1, h2⟩
  · rw [h]; exact ⟨fun _ _ => rfl, fun _ => .inl rfl⟩
  · have hs : c ≠ .W → stepOp ro.op (st i).1 (st i).2 = some (v, (st (i + 1)).2) := fun hw => OpR_P h2 (by rw [hco]; exact hw)
    refine ⟨fun hw ha => ?_, fun ha => ?_⟩
    · have hs' := hs hw
      cases hr : ro.op <;> rw [hr] at hs' hco <;> simp only [ROp.cls] at hco <;> (try (exact absurd hco.symm hw)) <;> (try (exact absurd hco.symm ha)) <;> simp only [stepOp] at hs' <;>
        ((repeat' split at hs') <;> first | (cases hs'; done) | (injection hs' with hs'; injection hs' with _ h2; exact h2.symm))
    · have hs' := hs (by rw [ha]; simp)
      subst ha
      cases hr : ro.op <;> rw [hr] at hs' hco <;> simp only [ROp.cls] at hco <;> (try (cases hco; done)) <;> simp only [stepOp] at hs' <;>
        ((repeat' split at hs') <;> first | (cases hs'; done) | (injection hs' with hs'; injection hs' with _ h2; exact .inr ⟨_, h2.symm⟩))

theorem len_mono (D : Draw P CR ops os pairs st) (i j : Nat) (hij : i ≤ j) (hj : j ≤ ops.length) : (st i).2.length ≤ (st j).2.length :=
  states_mono D.mono D.hst i j hij (by rw [(allC_get D.hc).1]; exact hj)

/-- Ahead of the next write: the heap of the text's order lies in what is there. -/
theorem view_sub (D : Draw P CR ops os pairs st) (I : DInv ops os st ρ0 a0 w0 listed a w ρ O top) : ∀ j, top ≤ j → j ≤ ops.length → (∀ k, top ≤ k → k < j → ¬ clsAt os k .W) → (∀ k, top ≤ k → k < j → clsAt os k .A → isL listed k) →
    ∀ id b, view (st j).2 id = some b → (view (st top).2 id).or (O id) = some b := by
  intro j hj
  induction hj with
  | refl => intro _ _ _ id b h; simp [h]
  | @step j hj ih =>
    intro hjl hW hA id b h
    have hjl' : j < ops.length := hjl
    have ih' := ih (Nat.le_of_lt hjl') (fun k h1 h2 => hW k h1 (Nat.lt_succ_of_lt h2)) (fun k h1 h2 => hA k h1 (Nat.lt_succ_of_lt h2))
    obtain ⟨c, hcl⟩ := clsAt_of D.hc hjl'
    obtain ⟨s1, s2⟩ := heap_step D hcl
    have hjW : c ≠ .W := fun e => by subst e; exact hW j hj (Nat.lt_succ_self j) hcl
    by_cases hcA : c = .A
    · subst hcA
      rcases s2 rfl with h0 | ⟨cells, h0⟩
      · have h0' : (st (Nat.succ j)).2 = (st j).2 := h0
        rw [h0'] at h; exact ih' id b h
      · have h0' : (st (Nat.succ j)).2 = (st j).2 ++ [some ⟨false, cells⟩] := h0
        by_cases hid : id = (st j).2.length
        · have hO : O id = some b := (I.orph id b).2 ⟨j, hj, hjl', hA j hj (Nat.lt_succ_self j) hcl, hcl, hid.symm, h⟩
          have hnone : view (st top).2 id = none := view_none (by rw [hid]; exact len_mono D top j hj (Nat.le_of_lt hjl'))
          simp [hnone, hO]
        · rw [h0', view_push, if_neg hid] at h
          exact ih' id b h
    · have h0 : (st (Nat.succ j)).2 = (st j).2 := s1 hjW hcA
      rw [h0] at h; exact ih' id b h

structure Ready (ops : List Oper) (os : List ROper) (listed : Array Bool) (i : Nat) (o : Oper) (ro : ROper) : Prop where
  ho : ops[i]? = some o
  hro : os[i]? = some ro
  lt : i < ops.length
  not : ¬ isL listed i
  edges : ∀ e ∈ o.after.toList, Region.binds .any e = true → isL listed e.on

theorem Ready.waits (I : DInv ops os st ρ0 a0 w0 listed a w ρ O top) {i : Nat} {o : Oper} {ro : ROper} (R : Ready ops os listed i o ro) (j : Nat) (hw : Sim.waits (befs ops []) i j = true) : isL listed j :=
  waits_closed I.down i o R.ho R.edges j hw
theorem Ready.nowait (I : DInv ops os st ρ0 a0 w0 listed a w ρ O top) {i : Nat} {o : Oper} {ro : ROper} (R : Ready ops os listed i o ro) (j : Nat) (hjl : j < ops.length) (hj : isL listed j) : Sim.waits (befs ops []) j i = false := by
  cases h : Sim.waits (befs ops []) j i with
  | false => rfl
  | true => exact absurd (waits_closed I.down j ops[j] (by simp [hjl]) (I.down j ops[j] (by simp [hjl]) hj) i h) R.not

/-- A temporary that the operation looks at holds what it holds in the text's order. -/
theorem tv_ready (D : Draw P CR ops os pairs st) (I : DInv ops os st ρ0 a0 w0 listed a w ρ O top) {i : Nat} {o : Oper} {ro : ROper} (R : Ready ops os listed i o ro) {t : Tmp} (ht : t ∈ looks o ro) :
    TV ops st listed t ((st i).1.getD t undef) := by
  obtain ⟨hlen, hget⟩ := allC_get D.hc
  have hro' : ∀ j (hj : j < ops.length), ∃ rj, os[j]? = some rj ∧ rj.dst = dstAt ops j := by
    intro j hj
    obtain ⟨rj, h1, h2⟩ := hget j ops[j] (by simp [hj])
    exact ⟨rj, h1, by rw [(opsOk h2).2.1]; simp [dstAt, hj]⟩
  -- who writes it ahead of i has been carried out; who writes it behind i has not
  have before : ∀ j, j < i → dstAt ops j = some t → isL listed j := by
    intro j hj hd
    have hjl : j < ops.length := by have := R.lt; omega
    cases hw : waits (befs ops []) i j with
    | true => exact R.waits I j hw
    | false =>
      obtain ⟨rj, h1, h2⟩ := hro' j hjl
      have := pair_apart (D.pair i j hj R.lt) hw (by simp [hjl] : ops[j]? = some ops[j]) h1 R.ho R.hro
      exact absurd ht (this.1 t (by rw [h2, hd])).1
  have behind : ∀ j, i < j → j < ops.length → dstAt ops j = some t → ¬ isL listed j := by
    intro j hj hjl hd hL
    have hw := R.nowait I j hjl hL
    obtain ⟨rj, h1, h2⟩ := hro' j hjl
    have := pair_apart (D.pair j i hj hjl) hw R.ho R.hro (by simp [hjl] : ops[j]? = some ops[j]) h1
    exact this.2.1 t (by rw [h2, hd]) ht
  have hil := R.lt
  rcases last_writer ops t i with ⟨k, h1, h2, h3⟩ | h
  · refine .inl ⟨k, by omega, before k h1 h2, h2, fun j hjl hj hd => ?_, ?_⟩
    · rcases Nat.lt_or_ge j i with h' | h'
      · rcases Nat.lt_or_ge k j with h'' | h''
        · exact absurd hd (h3 j h'' h')
        · exact h''
      · rcases Nat.lt_or_ge i j with h'' | h''
        · exact absurd hj (behind j h'' hjl hd)
        · have : j = i := by omega
          subst this
          exact absurd hj R.not
    · exact env_at D.hc D.hst t i (by omega) (by omega) (fun j j1 j2 => h3 j (by omega) j2)
  · refine .inr ⟨fun j hjl hj hd => ?_, env_at D.hc D.hst t i (by omega) (by omega) (fun j j1 j2 => h j j2)⟩
    rcases Nat.lt_or_ge j i with h' | h'
    · exact h j h' hd
    · rcases Nat.lt_or_ge i j with h'' | h''
      · exact behind j h'' hjl hd hj
      · have : j = i := by omega
        subst this
        exact R.not hj

/-- The temporaries behind the operation. -/
theorem tv_step (D : Draw P CR ops os pairs st) (I : DInv ops os st ρ0 a0 w0 listed a w ρ O top) {i : Nat} {o : Oper} {ro : ROper} (R : Ready ops os listed i o ro) {v v' : Value} {ρ' : PMap} (hl : PLe ρ ρ') (hv : VRel ρ' v v') (hst : (st (i + 1)).1 = put (st i).1 o.dst v) :
    ∀ t x, TV ops st (listed.setIfInBounds i true) t x → VRel ρ' x ((a.put o.dst v').tmps.getD t undef) := by
  intro t x hx
  have hil := R.lt
  have hset := fun j => isL_set (listed := listed) (i := i) (by rw [I.sz]; exact hil) j
  obtain ⟨hlen, hget⟩ := allC_get D.hc
  have hdi : dstAt ops i = o.dst := by simp [dstAt, R.ho]
  have hsz : (st i).1.size = a.tmps.size := by rw [env_size D.hc D.hst i (by omega)]; exact I.esz
  by_cases hti : o.dst = some t
  · -- the operation wrote it
    have hxv : x = (st (i + 1)).1.getD t undef := by
      rcases hx with ⟨k, h1, h2, h3, h4, h5⟩ | ⟨h1, h2⟩
      · have hik := h4 i hil ((hset i).2 (.inl rfl)) (by rw [hdi, hti])
        rcases Nat.lt_or_ge i k with h' | h'
        · exfalso
          have hLk : isL listed k := by
            rcases (hset k).1 h2 with h | h
            · omega
            · exact h
          have hw := R.nowait I k h1 hLk
          obtain ⟨rk, k1, k2⟩ := hget k ops[k] (by simp [h1])
          have := pair_apart (D.pair k i h' h1) hw R.ho R.hro (by simp [h1] : ops[k]? = some ops[k]) k1
          have hrd : ro.dst = some t := by
            obtain ⟨ri, r1, r2⟩ := hget i o R.ho
            rw [R.hro] at r1; injection r1 with r1; subst r1
            rw [(opsOk r2).2.1, hti]
          have hkd : rk.dst = some t := by
            rw [(opsOk k2).2.1]
            simpa [dstAt, h1] using h3
          exact (this.1 t hrd).2 hkd
        · have : k = i := by omega
          subst this; exact h5
      · exact absurd (by rw [hdi, hti]) (h1 i hil ((hset i).2 (.inl rfl)))
    rw [hxv, hst, hti]
    simp only [put, Act.put, getD_put, hsz]
    by_cases hts : t < a.tmps.size
    · simp only [hts, and_self, if_true]; exact hv
    · simp only [hts, and_false, if_false]
      have e1 : (st i).1.getD t undef = undef := by simp [hsz, hts]
      have e2 : a.tmps.getD t undef = undef := by simp [hts]
      rw [e1, e2]; exact undef_rel ρ'
  · have hold : TV ops st listed t x := by
      rcases hx with ⟨k, h1, h2, h3, h4, h5⟩ | ⟨h1, h2⟩
      · have hki : k ≠ i := fun e => by subst e; rw [hdi] at h3; exact hti h3
        refine .inl ⟨k, h1, ((hset k).1 h2).resolve_left hki, h3, fun j hjl hj hd => h4 j hjl ((hset j).2 (.inr hj)) hd, h5⟩
      · exact .inr ⟨fun j hjl hj hd => h1 j hjl ((hset j).2 (.inr hj)) hd, h2⟩
    have hr := (I.env t x hold).mono hl
    have : (a.put o.dst v').tmps.getD t undef = a.tmps.getD t undef := by
      cases hd : o.dst with
      | none => rfl
      | some d =>
        simp only [Act.put, getD_put]
        rw [if_neg]
        intro ⟨e, _⟩
        subst e
        exact hti hd
    rw [this]; exact hr

theorem down_step (I : DInv ops os st ρ0 a0 w0 listed a w ρ O top) {i : Nat} {o : Oper} {ro : ROper} (R : Ready ops os listed i o ro) :
    ∀ (j : Nat) o', ops[j]? = some o' → isL (listed.setIfInBounds i true) j → ∀ e ∈ o'.after.toList, Region.binds .any e = true → isL (listed.setIfInBounds i true) e.on := by
  intro j o' ho hj e he hb
  have hset := fun j => isL_set (listed := listed) (i := i) (by rw [I.sz]; exact R.lt) j
  rw [hset]
  rcases (hset j).1 hj with rfl | hj'
  · rw [R.ho] at ho; injection ho with ho; subst ho
    exact .inr (R.edges e he hb)
  · exact .inr (I.down j o' ho hj' e he hb)
end
end
end Go.Sim
