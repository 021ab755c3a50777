/-
  A statement whose order is that of the text.
-/
import Derived.Test.YtlflfkdnpalhlaaSimG
namespace Go.Sim
open Go.RowKit

/-- One operation of a statement, in the evaluator. -/
def StepR (CR : CallR) (o : ROper) (s s' : Env × Heap) : Prop :=
  (wanted o s.1 = false ∧ s' = (put s.1 o.dst undef, s.2)) ∨ (wanted o s.1 = true ∧ ∃ v, s'.1 = put s.1 o.dst v ∧ OpR CR o.op s.1 s.2 v s'.2)

theorem opsOk {P : Program} {ops : List Oper} {o : Oper} {ro : ROper} (hc : compileOper P ops o = some ro) :
    compileOp P o.op = some ro.op ∧ ro.dst = o.dst ∧ ∀ x ∈ o.op.operands, okOpnd x = true := by
  unfold compileOper at hc
  split at hc <;> try cases hc
  rename_i rop hr
  split at hc <;> try cases hc
  rename_i ho
  refine ⟨hr, rfl, fun x hx => ?_⟩
  unfold opndsOk at ho
  rw [List.all_eq_true] at ho
  exact ho x (by simpa using hx)

theorem allC_get {α β : Type} {f : α → Option β} : ∀ {l : List α} {r : List β}, allC f l = some r → r.length = l.length ∧ ∀ (i : Nat) x, l[i]? = some x → ∃ y, r[i]? = some y ∧ f x = some y
  | [], r, h => by simp [allC] at h; subst h; exact ⟨rfl, fun i x hx => by simp at hx⟩
  | a :: l, r, h => by
    simp only [allC] at h
    split at h <;> try cases h
    rename_i y l' h1 h2
    obtain ⟨e1, e2⟩ := allC_get h2
    refine ⟨by simp [e1], fun i x hx => ?_⟩
    cases i with
    | zero => simp at hx; subst hx; exact ⟨y, rfl, h1⟩
    | succ i => simpa using e2 i x (by simpa using hx)

/-- What holds at the end. -/
def After (ρ : PMap) (h : Heap) (w : World) (a : Act) (e' : Env) (h' : Heap) (a' : Act) (w' : World) : Prop :=
  ∃ ρ', EnvRel ρ' e' a'.tmps ∧ Rel ρ' (view h') w' ∧ Ev ρ (view h) w ρ' (view h') w' ∧ PSame ρ ρ' h.length h'.length ∧ h.length ≤ h'.length ∧ a'.defers = a.defers

theorem heap_mono {CR : CallR} (hmono : ∀ g vs h v h', CR g vs h v h' → h.length ≤ h'.length) {op : ROp} {e : Env} {h : Heap} {v : Value} {h' : Heap} (hs : OpR CR op e h v h') : h.length ≤ h'.length := by
  by_cases hcall : ∃ f args, op = .call f args
  · obtain ⟨f, args, rfl⟩ := hcall
    obtain ⟨g, vs, _, hcr⟩ := hs
    exact hmono _ _ _ _ _ hcr
  · rw [OpR_step (fun f args he => hcall ⟨f, args, he⟩)] at hs
    cases op <;> simp only [stepOp] at hs
    case append =>
      unfold appendV at hs
      (repeat' split at hs) <;> first | (cases hs; done) | (injection hs with hs; injection hs with h1 h2; subst h2; simp)
    case copy =>
      unfold copyV at hs
      (repeat' split at hs) <;> first | (cases hs; done) | (injection hs with hs; injection hs with h1 h2; subst h2; simp)
    case store =>
      split at hs <;> try cases hs
      rename_i hst
      unfold storeV at hst
      (repeat' split at hst) <;> first | (cases hst; done) | (injection hst with hst; subst hst; simp)
    all_goals ((repeat' split at hs) <;> first | (cases hs; done) | (injection hs with hs; injection hs with h1 h2; subst h2; simp))

theorem step_mono {CR : CallR} (hmono : ∀ g vs h v h', CR g vs h v h' → h.length ≤ h'.length) {o : ROper} {s s' : Env × Heap} (hs : StepR CR o s s') : s.2.length ≤ s'.2.length := by
  rcases hs with ⟨_, rfl⟩ | ⟨_, v, _, ho⟩
  · exact Nat.le_refl _
  · exact heap_mono hmono ho

theorem states_mono {CR : CallR} (hmono : ∀ g vs h v h', CR g vs h v h' → h.length ≤ h'.length) {os : List ROper} {st : Nat → Env × Heap} (hst : ∀ (i : Nat) o, os[i]? = some o → StepR CR o (st i) (st (i + 1))) :
    ∀ (i j : Nat), i ≤ j → j ≤ os.length → (st i).2.length ≤ (st j).2.length := by
  intro i j hij
  induction hij with
  | refl => intro _; exact Nat.le_refl _
  | @step j hij ih =>
    intro hj
    have := step_mono hmono (hst j os[j] (by simp [show j < os.length from hj]))
    exact Nat.le_trans (ih (Nat.le_of_succ_le hj)) this

theorem Oper.wp_monoQ {P : Program} {o : Oper} {a : Act} {w : World} {K K' : Act → World → Prop} {Q Q' : Exit → Act → World → Prop} (hk : ∀ a w, K a w → K' a w) (hq : ∀ x a w, Q x a w → Q' x a w)
    (hh : o.wp P a w K Q) : o.wp P a w K' Q' := by
  unfold Oper.wp at *
  generalize (execOp a.eval o).run P w = r at *
  cases r with
  | ok n w' =>
    cases n <;> simp only [Oper.upon] at hh ⊢
    case value => exact hk _ _ hh
    case skip => exact hk _ _ hh
    case defer => exact hk _ _ hh
    case enter f args =>
      refine hh.mono fun e w'' he => ?_
      cases e with
      | returned v => exact hk _ _ he
      | panicked c => exact hq _ _ _ he
      | outgrown => obtain ⟨a0, w0, h0⟩ := he; exact ⟨a0, w0, hq _ _ _ h0⟩
    case row row args => exact Rows.mono hh (fun _ _ he => hk _ _ he)
  | halt x w' =>
    cases x <;> simp only [Oper.upon] at hh ⊢
    case panic => exact hq _ _ _ hh

theorem wpOps_monoQ {P : Program} {ops : Array Oper} : ∀ (l : List Nat) {Q Q' : Exit → Act → World → Prop} {a : Act} {w : World}, (∀ x a w, Q x a w → Q' x a w) → wpOps P ops Q l a w → wpOps P ops Q' l a w
  | [], _, _, _, _, hq, h => hq _ _ _ h
  | i :: l, Q, Q', a, w, hq, h => by
    rw [wpOps_cons] at h ⊢
    unfold wpOp at *
    cases hi : ops[i]? with
    | none => rw [hi] at h; exact wpOps_monoQ l hq h
    | some o =>
      rw [hi] at h
      simp only at h ⊢
      split
      · rename_i hw
        rw [if_pos hw] at h
        refine h.imp (Oper.wp_monoQ (fun a w => wpOps_monoQ l hq) hq) (fun ⟨h1, a0, w0, h0⟩ => ⟨h1, a0, w0, hq _ _ _ h0⟩)
      · rename_i hw
        rw [if_neg hw] at h
        exact wpOps_monoQ l hq h

section
variable {P : Program} {CR : CallR}

/-- **A STATEMENT IN THE TEXT's ORDER.** -/
theorem region_plain (CS : CallSim P CR) (hmono : ∀ g vs h v h', CR g vs h v h' → h.length ≤ h'.length) {ops : List Oper} {os : List ROper} (hc : allC (compileOper P ops) ops = some os) (st : Nat → Env × Heap)
    (hst : ∀ (i : Nat) o, os[i]? = some o → StepR CR o (st i) (st (i + 1))) :
    ∀ (n i : Nat), i + n = ops.length → ∀ (ρ : PMap) (a : Act) (w : World), EnvRel ρ (st i).1 a.tmps → Rel ρ (view (st i).2) w → Fresh ρ (st i).2.length (st ops.length).2.length →
      wpOps P ops.toArray (fun x a' w' => x = .normal ∧ After ρ (st i).2 w a (st ops.length).1 (st ops.length).2 a' w') (List.range' i n) a w := by
  obtain ⟨hlen, hget⟩ := allC_get hc
  intro n
  induction n with
  | zero =>
    intro i hi ρ a w he hr _
    simp only [List.range'_zero, wpOps]
    have : i = ops.length := by omega
    subst this
    exact ⟨trivial, ρ, he, hr, Ev.refl _ _ _, PSame.refl _ _ _, Nat.le_refl _, rfl⟩
  | succ n ih =>
    intro i hi ρ a w he hr hf
    have hil : i < ops.length := by omega
    obtain ⟨ro, hro, hco⟩ := hget i ops[i] (by simp [hil])
    obtain ⟨hop, hdst, hok⟩ := opsOk hco
    have hm1 := states_mono hmono hst i (i + 1) (by omega) (by omega)
    have hm2 := states_mono hmono hst (i + 1) ops.length (by omega) (by omega)
    rw [List.range'_succ, wpOps_cons]
    unfold wpOp
    have hgi : (ops.toArray)[i]? = some ops[i] := by simp [hil]
    rw [hgi]
    simp only
    have hw := wanted_rel (ops := ops) hco he.size (fun t _ => he.val t)
    -- the rest of the way
    have go : ∀ (ρ1 : PMap) (a1 : Act) (w1 : World), EnvRel ρ1 (st (i + 1)).1 a1.tmps → Rel ρ1 (view (st (i + 1)).2) w1 → Ev ρ (view (st i).2) w ρ1 (view (st (i + 1)).2) w1 → PSame ρ ρ1 (st i).2.length (st (i + 1)).2.length → a1.defers = a.defers →
        wpOps P ops.toArray (fun x a' w' => x = .normal ∧ After ρ (st i).2 w a (st ops.length).1 (st ops.length).2 a' w') (List.range' (i + 1) n) a1 w1 := by
      intro ρ1 a1 w1 he1 hr1 hev hps hd
      have := ih (i + 1) (by omega) ρ1 a1 w1 he1 hr1 (Fresh.rest hps hf hm1)
      refine wpOps_monoQ _ ?_ this
      rintro x a' w' ⟨rfl, ρ', c1, c2, c3, c4, c5, c6⟩
      exact ⟨rfl, ρ', c1, c2, hev.trans c3, hps.trans c4 hm1 hm2, by omega, c6.trans hd⟩
    rcases hst i ro hro with ⟨hwt, hs⟩ | ⟨hwt, v, hs1, hs2⟩
    · rw [hw, hwt]
      simp only [Bool.false_eq_true, if_false]
      refine go ρ _ w ?_ ?_ ?_ ?_ ?_
      · rw [hs]; simp only; rw [hdst]; exact he.put (undef_rel ρ) _
      · rw [hs]; exact hr
      · rw [hs]; exact Ev.refl _ _ _
      · exact PSame.refl _ _ _
      · cases ops[i].dst <;> rfl
    · rw [hw, hwt]
      simp only [if_true]
      refine .inl (opSim CS hop (fun x hx => ev_rel (hok x hx) (fun t _ => he.val t)) hr hs2 (hf.first hm2) ?_)
      intro v' w' ρ' h1 h2 h3 h4 h5
      refine go ρ' _ w' ?_ h2 h3 h4 ?_
      · rw [hs1, hdst]; exact (he.mono (h4.le (hf.first hm2))).put h1 _
      · cases ops[i].dst <;> rfl
end
end Go.Sim
