/-
  The code of a function, resolved; one operation in the program as in the evaluator.
-/
import Derived.Test.YtlflfkdnpalhlaaSimF
namespace Go.Sim
open Go.RowKit

def opndsOk (l : List Operand) : Bool := l.all okOpnd

def compileOper (P : Program) (ops : List Oper) (o : Oper) : Option ROper :=
  match compileOp P o.op with
  | some rop =>
    if opndsOk o.op.operands.toList = true then
      some { dst := o.dst, op := rop, guard := match o.guard with | none => none | some (j, want) => some ((ops[j]?).bind (·.dst), want) }
    else none
  | none => none

def allC {α β : Type} (f : α → Option β) : List α → Option (List β)
  | [] => some []
  | x :: r => match f x, allC f r with | some y, some l => some (y :: l) | _, _ => none

/-- The bits of what an operation waits for. -/
def bef1 (acc : List Nat) (l : List Edge) (s : Nat) : Nat :=
  match l with
  | [] => s
  | e :: r => bef1 acc r (match Region.binds .any e with | true => s ||| 2 ^ e.on ||| acc.getD e.on 0 | false => s)
def befs : List Oper → List Nat → List Nat
  | [], acc => acc
  | o :: os, acc => befs os (acc ++ [bef1 acc o.after.toList 0])
def waits (B : List Nat) (i j : Nat) : Bool := (B.getD i 0).testBit j

def tmpsOf (l : List Operand) : List Tmp :=
  match l with
  | [] => []
  | .tmp t :: r => t :: tmpsOf r
  | _ :: r => tmpsOf r
def guardTmp (o : ROper) : List Tmp :=
  match o.guard with
  | some (some t, _) => [t]
  | _ => []
def looks (o : Oper) (ro : ROper) : List Tmp := tmpsOf o.op.operands.toList ++ guardTmp ro
def tmpsApart (lj : List Tmp) (dj : Option Tmp) (li : List Tmp) (di : Option Tmp) : Bool :=
  (match dj with | some d => !li.contains d && (match di with | some d' => d != d' | none => true) | none => true) &&
  (match di with | some d => !lj.contains d | none => true)

def clsOk (pairs : List (Nat × Nat)) (j i : Nat) (cj ci : Cls) : Bool :=
  match cj, ci with
  | .P, _ => true
  | _, .P => true
  | .L, .L => true
  | .L, .A => true
  | .A, .L => false
  | .A, .A => true
  | .A, .W => false
  | .W, .A => true
  | .W, .W => false
  | .L, .W => pairs.any fun p => p.1 == j && p.2 == i
  | .W, .L => pairs.any fun p => p.1 == i && p.2 == j

def floats (B : List Nat) (os : List ROper) : List (Nat × Nat) :=
  (List.range os.length).flatMap fun i => (List.range i).filterMap fun j =>
    match os[j]?, os[i]? with
    | some oj, some oi =>
      if waits B i j then none else
      match oj.op.cls, oi.op.cls with
      | .L, .W => some (j, i)
      | .W, .L => some (i, j)
      | _, _ => none
    | _, _ => none

def pairOk (B : List Nat) (pairs : List (Nat × Nat)) (ops : List Oper) (os : List ROper) (j i : Nat) : Bool :=
  waits B i j ||
  match ops[j]?, os[j]?, ops[i]?, os[i]? with
  | some pj, some oj, some pi, some oi => tmpsApart (looks pj oj) oj.dst (looks pi oi) oi.dst && clsOk pairs j i oj.op.cls oi.op.cls
  | _, _, _, _ => false

def edgesOk (ops : List Oper) : Bool :=
  (List.range ops.length).all fun i => match ops[i]? with | some o => o.after.toList.all fun e => !Region.binds .any e || decide (e.on < i) | none => false

def drawOk (pairs : List (Nat × Nat)) (ops : List Oper) (os : List ROper) : Bool :=
  let B := befs ops []
  edgesOk ops && (List.range ops.length).all fun i => (List.range i).all fun j => pairOk B pairs ops os j i

def compileRegion (P : Program) (ops : List Oper) (draw : Bool) : Option RCode :=
  match allC (compileOper P ops) ops with
  | none => none
  | some os =>
    match draw with
    | false => some (.region os [])
    | true =>
      let pairs := floats (befs ops []) os
      if drawOk pairs ops os = true then some (.region os pairs) else none

def compileCode (P : Program) : Code → Option RCode
  | .skip => some .skip
  | .label _ => some .skip
  | .region _ ops draw => compileRegion P ops.toList draw
  | .seq a b => match compileCode P a, compileCode P b with | some x, some y => some (.seq x y) | _, _ => none
  | .cond c a b =>
    match compileCode P a, compileCode P b with
    | some x, some y => if okOpnd c = true then some (.cond c x y) else none
    | _, _ => none
  | .block id c => match compileCode P c with | some x => some (.block id x) | none => none
  | .loop c => match compileCode P c with | some x => some (.loop x) | none => none
  | .scope c => match compileCode P c with | some x => some (.scope x) | none => none
  | .exit id => some (.exit id)
  | .ret => some .ret
  | _ => none

def compileRes (P : Program) : List ResultVar → Option (List RRes)
  | [] => some []
  | .tmp t :: r => match compileRes P r with | some l => some (.tmp t :: l) | none => none
  | .cell a t :: r =>
    match aggT P t, sizeT P t, compileRes P r with
    | some g, some n, some l => some (.cell a n g :: l)
    | _, _, _ => none

def compileF (P : Program) (f : FuncId) (iso : Bool) : Option RFunc :=
  match P.funcs[f]? with
  | none => none
  | some fn =>
    match fn.body with
    | none => none
    | some c =>
      match compileCode P c, compileRes P fn.results.toList with
      | some body, some rs => if (fn.name == "runtime.NumGoroutine") = false then some { ntmps := fn.ntmps, results := rs, body, iso } else none
      | _, _ => none

def fnAt (P : Program) (f : FuncId) : Option Func := P.funcs[f]?
def parsOf : Option Func → Nat
  | some fn => fn.params.size + fn.nfree
  | none => 0
def nameOf : Option Func → String
  | some fn => fn.name
  | none => ""

/-- The table is the program's. -/
def TabOk (P : Program) (T : Tab) : Prop := ∀ g G, T g = some G → compileF P g G.iso = some G

/-! ### The temporaries -/

structure EnvRel (ρ : PMap) (e : Env) (t : Array Value) : Prop where
  size : e.size = t.size
  val : ∀ i : Nat, VRel ρ (e.getD i undef) (t.getD i undef)

theorem EnvRel.mono {ρ ρ' : PMap} {e : Env} {t : Array Value} (h : EnvRel ρ e t) (hl : PLe ρ ρ') : EnvRel ρ' e t := ⟨h.size, fun i => (h.val i).mono hl⟩

theorem getD_put (e : Env) (d : Nat) (v : Value) (i : Nat) : (e.setIfInBounds d v).getD i undef = if d = i ∧ i < e.size then v else e.getD i undef := by
  simp only [Array.getD_eq_getD_getElem?, Array.getElem?_setIfInBounds]
  by_cases h1 : d = i
  · subst h1
    by_cases h2 : d < e.size
    · simp [h2]
    · simp [h2]
  · simp [h1]

theorem EnvRel.put {ρ : PMap} {e : Env} {a : Act} (h : EnvRel ρ e a.tmps) {v v' : Value} (hv : VRel ρ v v') (dst : Option Tmp) : EnvRel ρ (Sim.put e dst v) (a.put dst v').tmps := by
  cases dst with
  | none => exact h
  | some d =>
    refine ⟨by simp [Sim.put, Act.put, h.size], fun i => ?_⟩
    simp only [Sim.put, Act.put, getD_put, ← h.size]
    split
    · exact hv
    · exact h.val i

theorem ev_rel {ρ : PMap} {e : Env} {a : Act} {x : Operand} (hx : okOpnd x = true) (h : ∀ t, x = .tmp t → VRel ρ (e.getD t undef) (a.tmps.getD t undef)) : VRel ρ (ev e x) (a.eval x) := by
  cases x with
  | tmp t => exact h t rfl
  | const v => exact noAddr_self ρ v hx
  | global g => cases hx
  | func f => exact .func _ rfl rfl (fun i h => absurd h (by simp)) (fun i h => absurd h (by simp))

theorem undef_rel (ρ : PMap) : VRel ρ undef undef := noAddr_self ρ undef rfl

/-- Whether it is wanted. -/
theorem wanted_rel {ρ : PMap} {e : Env} {a : Act} {P : Program} {ops : List Oper} {o : Oper} {ro : ROper} (hc : compileOper P ops o = some ro) (hsz : e.size = a.tmps.size)
    (h : ∀ t, t ∈ guardTmp ro → VRel ρ (e.getD t undef) (a.tmps.getD t undef)) : Region.wanted o (yielded ops.toArray a.tmps) = wanted ro e := by
  unfold compileOper at hc
  split at hc <;> try cases hc
  split at hc <;> try cases hc
  unfold Region.wanted wanted
  simp only
  cases hg : o.guard with
  | none => rfl
  | some gw =>
    obtain ⟨j, want⟩ := gw
    simp only [yielded, List.getElem?_toArray]
    cases ht : (ops[j]?).bind (·.dst) with
    | none => simp
    | some t =>
      simp only [Option.bind_some]
      have hr := h t (by simp [guardTmp, hg, ht])
      by_cases hlt : t < e.size
      · have hlt' : t < a.tmps.size := hsz ▸ hlt
        have e1 : e[t]? = some (e.getD t undef) := by simp [hlt]
        have e2 : a.tmps[t]? = some (a.tmps.getD t undef) := by simp [hlt']
        rw [e1, e2]
        generalize e.getD t undef = x at hr
        generalize a.tmps.getD t undef = y at hr
        cases hr <;> simp
      · have e1 : e[t]? = none := Array.getElem?_eq_none (Nat.le_of_not_lt hlt)
        have e2 : a.tmps[t]? = none := Array.getElem?_eq_none (hsz ▸ Nat.le_of_not_lt hlt)
        rw [e1, e2]
        simp

/-! ### Calls -/

abbrev CallR := FuncId → List Value → Heap → Value → Heap → Prop

/-- What is to be known of calls. -/
def CallSim (P : Program) (CR : CallR) : Prop :=
  ∀ g vs h v h', CR g vs h v h' → ∀ (ρ : PMap) (w : World) (vs' : List Value), Rel ρ (view h) w → LRel ρ vs vs' → Fresh ρ h.length h'.length →
    (∃ fn, P.funcs[g]? = some fn ∧ (fn.name == "runtime.NumGoroutine") = false ∧ fn.body.isSome = true) ∧
    Calls P g vs'.toArray w fun e w' => ∃ v' ρ', e = .returned v' ∧ VRel ρ' v v' ∧ Rel ρ' (view h') w' ∧ Ev ρ (view h) w ρ' (view h') w' ∧ PSame ρ ρ' h.length h'.length ∧ h.length ≤ h'.length

def OpR (CR : CallR) (op : ROp) (e : Env) (h : Heap) (v : Value) (h' : Heap) : Prop :=
  match op with
  | .call f args => ∃ g vs, callee e f args = some (g, vs) ∧ CR g vs h v h'
  | op => stepOp op e h = some (v, h')

theorem OpR_step {CR : CallR} {op : ROp} {e : Env} {h : Heap} {v : Value} {h' : Heap} (hn : ∀ f args, op ≠ .call f args) : OpR CR op e h v h' = (stepOp op e h = some (v, h')) := by
  cases op <;> first | rfl | exact absurd rfl (hn _ _)

theorem OpR_P {CR : CallR} {op : ROp} {e : Env} {h : Heap} {v : Value} {h' : Heap} (hs : OpR CR op e h v h') (hc : op.cls ≠ .W) : stepOp op e h = some (v, h') := by
  rwa [OpR_step (fun f args he => by subst he; exact hc rfl)] at hs

section
variable {P : Program} {CR : CallR} {ρ : PMap} {w : World} {e : Env} {a : Act} {h : Heap}

theorem wp_of_value {o : Oper} {K : Act → World → Prop} {Q : Exit → Act → World → Prop} {v' : Value} {w' : World} (hx : (execOp a.eval o).run P w = .ok (.value v') w') (hK : K (a.put o.dst v') w') : o.wp P a w K Q := by
  unfold Oper.wp
  rw [hx]
  exact hK
theorem wp_of_skip {o : Oper} {K : Act → World → Prop} {Q : Exit → Act → World → Prop} {w' : World} (hx : (execOp a.eval o).run P w = .ok .skip w') (hK : K (a.put o.dst undef) w') : o.wp P a w K Q := by
  unfold Oper.wp
  rw [hx]
  exact hK

/-- **ONE OPERATION.** -/
theorem opSim (CS : CallSim P CR) {o : Oper} {rop : ROp} (hc : compileOp P o.op = some rop) (hops : ∀ x ∈ o.op.operands, VRel ρ (ev e x) (a.eval x)) (hr : Rel ρ (view h) w) {v : Value} {h' : Heap} (hs : OpR CR rop e h v h')
    (hf : Fresh ρ h.length h'.length) {Q : Exit → Act → World → Prop} {K : Act → World → Prop}
    (hK : ∀ v' w' ρ', VRel ρ' v v' → Rel ρ' (view h') w' → Ev ρ (view h) w ρ' (view h') w' → PSame ρ ρ' h.length h'.length → h.length ≤ h'.length → K (a.put o.dst v') w') : o.wp P a w K Q := by
  obtain ⟨dst, op, ty, pos, after, guard⟩ := o
  cases hcls : rop.cls with
  | P =>
    obtain ⟨rfl, v', h1, h2⟩ := simP hc hcls hops (OpR_P hs (by rw [hcls]; simp))
    exact wp_of_value (h1 w dst ty pos after guard) (hK v' w ρ h2 hr (Ev.refl _ _ _) (PSame.refl _ _ _) (Nat.le_refl _))
  | L =>
    obtain ⟨rfl, v', h1, h2⟩ := simL hc hcls hr hops (OpR_P hs (by rw [hcls]; simp))
    exact wp_of_value (h1 dst ty pos after guard) (hK v' w ρ h2 hr (Ev.refl _ _ _) (PSame.refl _ _ _) (Nat.le_refl _))
  | A =>
    obtain ⟨cells, c, t, esz, mk, rfl, h1, h2, h3, h4, h5⟩ := simA hc hcls hops (OpR_P hs (by rw [hcls]; simp))
    have hfr : ρ h.length = none := hf h.length (Nat.le_refl _) (by simp)
    obtain ⟨r1, r2⟩ := rel_new hr hfr c t esz h1 h2 h3
    exact wp_of_value (h4 w dst ty pos after guard) (hK _ _ _ (h5 _ _ (newP_self _ _ _)) r1 r2 (by simpa using newP_same ρ h.length _) (by simp))
  | W =>
    by_cases hcall : ∃ f args, rop = .call f args
    · obtain ⟨f, args, rfl⟩ := hcall
      obtain ⟨g, vs, hce, hcr⟩ := hs
      have hop : ∃ tys cargs, op = .call ⟨.value f, cargs, tys⟩ ∧ okOpnd f = true ∧ args = cargs.toList := by
        rcases (cls_of hc).2.2 hcls with ⟨t, a, x, rfl⟩ | ⟨c, rfl⟩
        · simp only [compileOp] at hc
          split at hc <;> cases hc
        · rcases compileCall_inv hc with ⟨f', args', tys, rfl, ho, hq⟩ | ⟨x, t, rfl, ⟨hu, hq⟩ | ⟨⟨el, hu⟩, hq⟩⟩ | ⟨x, xs, tys, rfl, hq⟩ | ⟨x, xs, tys, rfl, hq⟩ | ⟨x, y, t, u, el, i, z, rfl, hu, hi, hz, hux, hq⟩ | ⟨x, y, t, u, el, i, rfl, hu, hi, hq⟩ <;> try (cases hq; done)
          injection hq with q1 q2
          subst q1; subst q2
          exact ⟨tys, args', rfl, ho, rfl⟩
      obtain ⟨tys, cargs, rfl, hof, rfl⟩ := hop
      have hfr := hops f (by simp [Op.operands, Call.operands])
      have har : LRel ρ (cargs.toList.map (ev e)) (cargs.toList.map a.eval) := args_rel (fun x hx => hops x (by simp [Op.operands, Call.operands]; exact .inr (by simpa using hx)))
      unfold callee at hce
      split at hce <;> try cases hce
      rename_i first captured hfe
      rw [hfe] at hfr
      cases hfv : a.eval f <;> rw [hfv] at hfr <;> try (cases hfr; done)
      rename_i fn' first' captured'
      cases hfr with
      | func _ hfa hfb ra rb =>
        have hvs : LRel ρ (first.toList ++ cargs.toList.map (ev e) ++ captured.toList) (first'.toList ++ cargs.toList.map a.eval ++ captured'.toList) := ((LRel.of_getElem hfa ra).append har).append (LRel.of_getElem hfb rb)
        obtain ⟨⟨fn, hfn, hnm, hbody⟩, hcalls⟩ := CS _ _ _ _ _ hcr ρ w _ hr hvs hf
        unfold Oper.wp
        have hex : (execOp a.eval { dst, op := .call ⟨.value f, cargs, tys⟩, type := ty, pos, after, guard }).run P w = .ok (.enter g (first' ++ cargs.map a.eval ++ captured')) w := by
          cases hb : fn.body with
          | none => rw [hb] at hbody; cases hbody
          | some c =>
            have hcf : (callFunc g (first' ++ cargs.map a.eval ++ captured')).run P w = .ok (.enter g (first' ++ cargs.map a.eval ++ captured')) w := by
              simp only [callFunc, Sem.run_bind, run_program, Result.andThen_ok, hfn, hnm, hb, Option.isNone_some, Bool.false_eq_true, if_false, Sem.run_pure]
            simp only [execOp, resolve, hfv, Deferred.ofValue, Sem.run_bind, Sem.run_pure, Result.andThen_ok, invoke]
            exact hcf
        rw [hex]
        simp only [Oper.upon]
        have hargs : (first'.toList ++ cargs.toList.map a.eval ++ captured'.toList).toArray = first' ++ cargs.map a.eval ++ captured' := by
          apply Array.ext'
          simp
        rw [hargs] at hcalls
        refine hcalls.mono ?_
        rintro e' w' ⟨v', ρ', rfl, h1, h2, h3, h4, h5⟩
        exact hK v' w' ρ' h1 h2 h3 h4 h5
    · have hn : ∀ f args, rop ≠ .call f args := fun f args he => hcall ⟨f, args, he⟩
      rw [OpR_step hn] at hs
      obtain ⟨v', w', ρ', h1, h2, h3, h4, h5, h6⟩ := simW hc hcls hn hr hops hs hf
      rcases h1 dst ty pos after guard with hx | ⟨hx, rfl⟩
      · exact wp_of_value hx (hK v' w' ρ' h5 h2 h3 h4 h6)
      · exact wp_of_skip hx (hK _ w' ρ' h5 h2 h3 h4 h6)
end
end Go.Sim
