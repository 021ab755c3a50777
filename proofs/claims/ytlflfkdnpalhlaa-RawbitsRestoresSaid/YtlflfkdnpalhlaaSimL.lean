/-
  THE MAIN THEOREM: what the evaluator finds, the program does, on every tape.
-/
import Derived.Test.YtlflfkdnpalhlaaSimK
import Derived.Scope
namespace Go.Sim
open Go.RowKit

inductive KRel (P : Program) : List RItem → List Item → Prop
  | nil : KRel P [] []
  | code {c : Code} {rc : RCode} {k : List RItem} {t : List Item} (h : compileCode P c = some rc) (hk : KRel P k t) : KRel P (.code rc :: k) (.code c :: t)
  | inBlock {id : Nat} {k : List RItem} {t : List Item} (hk : KRel P k t) : KRel P (.inBlock id :: k) (.inBlock id :: t)
  | inScope {c : Code} {k : List RItem} {t : List Item} (hk : KRel P k t) : KRel P (.inScope :: k) (.inScope c :: t)
  | inLoop {c : Code} {rc : RCode} {k : List RItem} {t : List Item} (h : compileCode P c = some rc) (hk : KRel P k t) : KRel P (.inLoop rc :: k) (.inLoop c :: t)

theorem KRel.exit {P : Program} {id : Nat} : ∀ {k : List RItem} {t : List Item} {k' : List RItem}, KRel P k t → exitR id k = some k' → ∃ t', exitTo id t = some t' ∧ KRel P k' t'
  | _, _, _, .nil, h => by simp [exitR] at h
  | _, _, _, .code _ hk, h => by
    obtain ⟨t', h1, h2⟩ := hk.exit (by simpa [exitR] using h)
    exact ⟨t', by simpa [exitTo] using h1, h2⟩
  | _, _, _, .inScope hk, h => by
    obtain ⟨t', h1, h2⟩ := hk.exit (by simpa [exitR] using h)
    exact ⟨t', by simpa [exitTo] using h1, h2⟩
  | _, _, _, .inLoop _ hk, h => by
    obtain ⟨t', h1, h2⟩ := hk.exit (by simpa [exitR] using h)
    exact ⟨t', by simpa [exitTo] using h1, h2⟩
  | _, _, _, .inBlock (id := j) (t := t) hk, h => by
    simp only [exitR] at h
    by_cases hj : j = id
    · rw [if_pos hj] at h
      injection h with h; subst h
      exact ⟨t, by simp [exitTo, hj], hk⟩
    · rw [if_neg hj] at h
      obtain ⟨t', h1, h2⟩ := hk.exit h
      refine ⟨t', ?_, h2⟩
      have : (j == id) = false := by simpa using hj
      simp [exitTo, this, h1]

theorem cond_some {P : Program} {c : Operand} {a b : Code} {rc : RCode} (h : compileCode P (.cond c a b) = some rc) : ∃ x y, rc = .cond c x y ∧ compileCode P a = some x ∧ compileCode P b = some y ∧ okOpnd c = true := by
  simp only [compileCode] at h
  split at h <;> try cases h
  rename_i x y h1 h2
  split at h <;> try cases h
  rename_i h3
  exact ⟨x, y, rfl, h1, h2, h3⟩

/-- A result. -/
def resSem (t : Array Value) : ResultVar → Sem Value
  | .tmp i => pure (t.getD i undef)
  | .cell a ty => do loadVar ty (← asAddr (t.getD a undef))

theorem res_run {P : Program} {ρ : PMap} {h : Heap} {w : World} {e : Env} {t : Array Value} (he : EnvRel ρ e t) (hr : Rel ρ (view h) w) : ∀ (rs : List ResultVar) (l : List RRes) (vs : List Value), compileRes P rs = some l → allSome (l.map (resV e h)) = some vs →
    ∃ vs', (rs.mapM (resSem t)).run P w = .ok vs' w ∧ LRel ρ vs vs'
  | [], l, vs, hl, hv => by
    simp [compileRes] at hl; subst hl
    simp [allSome] at hv; subst hv
    exact ⟨[], by simp, LRel.nil ρ⟩
  | .tmp i :: rs, l, vs, hl, hv => by
    simp only [compileRes] at hl
    split at hl <;> try cases hl
    rename_i l' hl'
    simp only [List.map_cons, allSome, resV] at hv
    split at hv <;> try cases hv
    rename_i vs0 hv0
    obtain ⟨vs', h1, h2⟩ := res_run he hr rs l' vs0 hl' hv0
    exact ⟨t.getD i undef :: vs', by simp only [List.mapM_cons, resSem, Sem.run_bind, Sem.run_pure, Result.andThen_ok, h1], LRel.cons (he.val i) h2⟩
  | .cell a ty :: rs, l, vs, hl, hv => by
    simp only [compileRes] at hl
    split at hl <;> try cases hl
    rename_i g n l' hg hn hl'
    simp only [List.map_cons, resV] at hv
    cases hx : loadV h n g (e.getD a undef) with
    | none => rw [hx] at hv; simp [allSome] at hv
    | some x =>
      rw [hx] at hv
      simp only [allSome] at hv
      split at hv <;> try cases hv
      rename_i vs0 hv0
      obtain ⟨vs', h1, h2⟩ := res_run he hr rs l' vs0 hl' hv0
      obtain ⟨ad, v', hae, hvr, hld⟩ := rel_load (P := P) hr (he.val a) hx
      have hlv : (loadVar ty ad).run P w = .ok v' w := by
        cases g with
        | true =>
          obtain ⟨cs, rfl, hld⟩ := hld
          simp [loadVar, agg_of hg, size_of hn, hld]
        | false =>
          simp only at hld
          simp only [loadVar, Sem.run_bind, agg_of hg, Result.andThen_ok, Bool.false_eq_true, if_false]
          exact hld
      refine ⟨v' :: vs', ?_, LRel.cons hvr h2⟩
      have hae' : t.getD a undef = .pointer (some ad) := hae
      simp only [List.mapM_cons, resSem, Sem.run_bind, hae', asAddr, Sem.run_pure, Result.andThen_ok, hlv, h1]

theorem finish_run {P : Program} {ρ : PMap} {h : Heap} {w : World} {e : Env} {t : Array Value} {F : RFunc} {fn : Func} (hres : compileRes P fn.results.toList = some F.results) (he : EnvRel ρ e t) (hr : Rel ρ (view h) w) {v : Value} {h' : Heap} (hf : finishV F e h = some (v, h')) :
    h' = h ∧ ∃ v', (results fn t).run P w = .ok v' w ∧ VRel ρ v v' := by
  unfold finishV at hf
  cases hv : allSome (F.results.map (resV e h)) with
  | none => rw [hv] at hf; cases hf
  | some vs =>
    rw [hv] at hf
    obtain ⟨vs', h1, h2⟩ := res_run he hr _ _ _ hres hv
    have hm : (fn.results.mapM (resSem t)).run P w = .ok vs'.toArray w := by
      generalize fn.results = R at h1
      obtain ⟨rs⟩ := R
      rw [List.mapM_toArray]
      simp only [Sem.run_map]
      have h1' : (rs.mapM (resSem t)).run P w = .ok vs' w := h1
      rw [h1']
      rfl
    have hrun : (results fn t).run P w = .ok (if hs : vs'.toArray.size = 1 then vs'.toArray[0] else .tuple vs'.toArray) w := by
      have : results fn t = (fn.results.mapM (resSem t) >>= fun vs => pure (if h : vs.size = 1 then vs[0] else .tuple vs)) := by
        unfold results
        congr 1
      rw [this, Sem.run_bind, hm]
      rfl
    rw [hrun]
    split at hf
    · cases hf
    · rename_i v0 hv0
      injection hv0 with hv0
      subst hv0
      injection hf with hf; injection hf with e1 e2
      subst e1; subst e2
      have hl : vs'.length = 1 := by have := h2.1; simpa using this.symm
      obtain ⟨x, rfl⟩ := List.length_eq_one_iff.1 hl
      refine ⟨rfl, x, by simp, ?_⟩
      obtain ⟨x', h3, h4⟩ := h2.2 0 v0 rfl
      simp at h3; subst h3; exact h4
    · rename_i l hnot hv0
      injection hv0 with hv0
      subst hv0
      injection hf with hf; injection hf with e1 e2
      subst e1; subst e2
      have hl : vs'.toArray.size ≠ 1 := by
        intro hs
        have hl : vs.length = 1 := by have := h2.1; simp at hs; omega
        obtain ⟨x, rfl⟩ := List.length_eq_one_iff.1 hl
        exact hnot x rfl
      refine ⟨rfl, .tuple vs'.toArray, by rw [dif_neg hl], h2.tuple⟩

/-- What is said of a run. -/
def RunSim (P : Program) (T : Tab) (n : Nat) : Prop :=
  ∀ (F : RFunc) (fn : Func) (g : FuncId) (k : List RItem) (todo : List Item) (e : Env) (h : Heap) (v : Value) (h' : Heap) (a : Act) (w : World) (ρ : PMap) (b : Frame) (cs : List Frame),
    P.funcs[g]? = some fn → compileRes P fn.results.toList = some F.results → KRel P k todo → EnvRel ρ e a.tmps → Rel ρ (view h) w → Fresh ρ h.length h'.length → a.defers = [] → b.fn = g → b.kind = .normal →
    run T n F k e h = some (v, h') →
    ∃ v' w' ρ' fr, Steps P (lone (b.at a todo) cs w) (lone fr cs w') ∧ fr.fn = g ∧ fr.leaving P w' (.returned v') ∧ VRel ρ' v v' ∧ Rel ρ' (view h') w' ∧ Ev ρ (view h) w ρ' (view h') w' ∧ PSame ρ ρ' h.length h'.length

theorem unowned {ρ : PMap} {h0 : Heap} {w w' : World} {ρ' : PMap} (hev : Ev ρ (view []) w ρ' (view h0) w') : ∀ k, k < w.heap.size → w'.heap[k]? = w.heap[k]? := by
  intro k hk
  have hwk : w.heap[k]? = some w.heap[k] := by simp [hk]
  obtain ⟨o', h1, h2⟩ := hev.mem k _ hwk
  rw [h1, hwk]
  congr 1
  have hno : ∀ i, ¬ Own ρ (view []) k i := by
    rintro i ⟨id, blk, p, h1, _⟩
    have := view_lt h1
    simp at this
  generalize w.heap[k] = o at h2
  cases o with
  | cells c t f =>
    cases o' with
    | cells c' t' f' =>
      obtain ⟨rfl, rfl, hs, hc⟩ := h2
      congr 1
      refine Array.ext hs fun i i1 i2 => ?_
      have := hc i (hno i)
      rw [Array.getElem?_eq_getElem i1, Array.getElem?_eq_getElem i2] at this
      exact Option.some.inj this
    | _ => cases h2
  | _ => exact h2

theorem rel_unowned {ρ : PMap} {h : Heap} {w w' : World} (hr : Rel ρ (view h) w) (hw : ∀ k, k < w.heap.size → w'.heap[k]? = w.heap[k]?) : Rel ρ (view h) w' := by
  refine ⟨fun id b hb => ?_, hr.sep⟩
  refine (hr.blk id b hb).of_heap fun p hp => hw _ ?_
  obtain ⟨p0, c, t, fz, h1, h2, _⟩ := hr.blk id b hb
  have : p0 = p := by rw [h1] at hp; exact Option.some.inj hp
  subst this
  exact (Array.getElem?_eq_some_iff.1 h2).1

theorem ev_unowned {ρ ρ0 ρ1 : PMap} {h h0 : Heap} {w w' : World} (hev : Ev ρ0 (view []) w ρ1 (view h0) w') : Ev ρ (view h) w ρ (view h) w' :=
  ⟨hev.size, hev.os, hev.tape, hev.output, fun b o hb => ⟨o, by rw [unowned hev b (Array.getElem?_eq_some_iff.1 hb).1]; exact hb, SameObj.refl _ o⟩, fun _ _ h _ => h, fun _ _ _ h => h⟩

theorem compileF_spec {P : Program} {g : FuncId} {iso : Bool} {G : RFunc} (h : compileF P g iso = some G) :
    ∃ fn c, P.funcs[g]? = some fn ∧ (fn.name == "runtime.NumGoroutine") = false ∧ fn.body = some c ∧ compileCode P c = some G.body ∧ compileRes P fn.results.toList = some G.results ∧ G.ntmps = fn.ntmps ∧ G.iso = iso := by
  unfold compileF at h
  split at h <;> try cases h
  rename_i fn hfn
  split at h <;> try cases h
  rename_i c hc
  split at h <;> try cases h
  rename_i body rs hb hr
  split at h <;> try cases h
  rename_i hn
  exact ⟨fn, c, hfn, hn, hc, hb, hr, rfl, rfl⟩

theorem rel_nil (w : World) (ρ : PMap) : Rel ρ (view []) w :=
  ⟨fun id b hb => by have := view_lt hb; simp at this, fun i j bi bj p q hi => by have := view_lt hi; simp at this⟩

theorem env_enter {ρ : PMap} {vs vs' : List Value} {n : Nat} (h : LRel ρ vs vs') : EnvRel ρ (vs.toArray ++ Array.replicate (n - vs.length) undef) (vs'.toArray ++ Array.replicate (n - vs'.toArray.size) undef) := by
  have hl := h.1
  refine ⟨by simp [hl], fun i => ?_⟩
  simp only [Array.getD_eq_getD_getElem?, Array.getElem?_append, List.size_toArray, hl, List.getElem?_toArray]
  split
  · rename_i hi
    obtain ⟨v', h1, h2⟩ := h.2 i vs[i] (by simp [hl, hi])
    rw [h1]
    have : vs[i]? = some vs[i] := by simp [hl, hi]
    rw [this]
    exact h2
  · cases hx : (Array.replicate (n - vs'.length) undef)[i - vs'.length]? with
    | none => exact undef_rel ρ
    | some x =>
      have : x = undef := by
        rw [Array.getElem?_replicate] at hx
        split at hx
        · exact (Option.some.inj hx).symm
        · cases hx
      subst this
      exact undef_rel ρ

theorem enter_eq {P : Program} {g : FuncId} {fn : Func} {c : Code} (hf : P.funcs[g]? = some fn) (hb : fn.body = some c) (args : Array Value) :
    Frame.enter P g args .normal = ({ (default : Frame) with fn := g, kind := .normal } : Frame).at { tmps := args ++ Array.replicate (fn.ntmps - args.size) undef, defers := [] } [.code c] := by
  simp [Frame.enter, Frame.at, hf, hb]

theorem callSim {P : Program} {T : Tab} (hT : TabOk P T) (N : Nat) (hrun : ∀ m, m < N → RunSim P T m) : CallSim P (CRN T N) := by
  rintro g vs h v h' ⟨G, m, hG, hm, hor⟩ ρ w vs' hr hvs hf
  obtain ⟨fn, c, hfn, hnm, hb, hcc, hres, hnt, hiso⟩ := compileF_spec (hT g G hG)
  refine ⟨⟨fn, hfn, hnm, by rw [hb]; rfl⟩, ?_⟩
  have hk : KRel P [.code G.body] [.code c] := .code hcc .nil
  intro cs
  rw [enter_eq hfn hb]
  rcases hor with ⟨hiso, hva, hvn, rfl, h0, hr0⟩ | ⟨hiso, hr0⟩
  · -- run on an empty heap
    have hvs' : vs' = vs := by
      have hall : ∀ (l l' : List Value), l.all noAddr = true → LRel ρ l l' → l' = l := by
        intro l
        induction l with
        | nil => intro l' _ hl; exact List.eq_nil_of_length_eq_zero (by have := hl.1; simpa using this.symm)
        | cons x l ih =>
          intro l' ha hl
          cases l' with
          | nil => have := hl.1; simp at this
          | cons x' l' =>
            simp only [List.all_cons, Bool.and_eq_true] at ha
            obtain ⟨y, h1, h2⟩ := hl.2 0 x rfl
            simp at h1; subst h1
            rw [h2.noAddr_eq ha.1, ih l' ha.2 ⟨by have := hl.1; simpa using this, fun i a ha => by simpa using hl.2 (i + 1) a (by simpa using ha)⟩]
      exact hall _ _ hva hvs
    subst hvs'
    have hself : LRel (fun _ => none) vs' vs' := by
      refine ⟨rfl, fun i x hx => ⟨x, hx, noAddr_self _ x ?_⟩⟩
      rw [List.all_eq_true] at hva
      exact hva x (List.mem_of_getElem? hx)
    obtain ⟨v', w', ρ', fr, h1, h2, h3, h4, h5, h6, _⟩ := hrun m hm G fn g _ _ (mkEnv G vs') [] v h0 { tmps := vs'.toArray ++ Array.replicate (fn.ntmps - vs'.toArray.size) undef, defers := [] } w (fun _ => none) ({ (default : Frame) with fn := g, kind := .normal } : Frame) cs hfn hres hk
      (by unfold mkEnv; rw [hnt]; exact env_enter hself) (rel_nil w _) (fun _ _ _ => rfl) rfl rfl rfl hr0
    have : v' = v := h4.noAddr_eq hvn
    subst this
    exact ⟨.returned v', w', fr, ⟨v', ρ, rfl, noAddr_self ρ v' hvn, rel_unowned hr (unowned h6), ev_unowned h6, PSame.refl _ _ _, Nat.le_refl _⟩, h1, h2, h3⟩
  · obtain ⟨v', w', ρ', fr, h1, h2, h3, h4, h5, h6, h7⟩ := hrun m hm G fn g _ _ (mkEnv G vs) h v h' { tmps := vs'.toArray ++ Array.replicate (fn.ntmps - vs'.toArray.size) undef, defers := [] } w ρ ({ (default : Frame) with fn := g, kind := .normal } : Frame) cs hfn hres hk
      (by unfold mkEnv; rw [hnt]; exact env_enter hvs) hr hf rfl rfl rfl hr0
    exact ⟨.returned v', w', fr, ⟨v', ρ', rfl, h4, h5, h6, h7, run_len T m _ _ _ _ _ _ hr0⟩, h1, h2, h3⟩

theorem runSim {P : Program} {T : Tab} (hT : TabOk P T) (hmix : P.follows .mixedOrders = true) : ∀ n, RunSim P T n := by
  intro n
  induction n using Nat.strongRecOn with
  | _ n ih =>
    intro F fn g k todo e h v h' a w ρ b cs hfn hres hk he hr hf hd hb hbk hrun
    have CS := callSim hT n ih
    -- the end
    have fin : ∀ todo, finishV F e h = some (v, h') → (∀ m, Steps P m (lone (b.at a todo) cs w) → Steps P m (lone { b.at a todo with mode := .returning } cs w)) →
        ∃ v' w' ρ' fr, Steps P (lone (b.at a todo) cs w) (lone fr cs w') ∧ fr.fn = g ∧ fr.leaving P w' (.returned v') ∧ VRel ρ' v v' ∧ Rel ρ' (view h') w' ∧ Ev ρ (view h) w ρ' (view h') w' ∧ PSame ρ ρ' h.length h'.length := by
      intro todo hfv hst
      obtain ⟨rfl, v', h1, h2⟩ := finish_run hres he hr hfv
      refine ⟨v', w, ρ, { b.at a todo with mode := .returning }, hst _ (Steps.refl P _), hb, ⟨rfl, hd, hbk, fn, ?_, h1⟩, h2, hr, Ev.refl _ _ _, PSame.refl _ _ _⟩
      show P.funcs[b.fn]? = some fn
      rw [hb]; exact hfn
    -- one step of the program, and on
    have on : ∀ (todo2 : List Item) (k2 : List RItem) (m : Nat), step P (lone (b.at a todo) cs w) = .next (lone (b.at a todo2) cs w) → m < n → KRel P k2 todo2 → run T m F k2 e h = some (v, h') →
        ∃ v' w' ρ' fr, Steps P (lone (b.at a todo) cs w) (lone fr cs w') ∧ fr.fn = g ∧ fr.leaving P w' (.returned v') ∧ VRel ρ' v v' ∧ Rel ρ' (view h') w' ∧ Ev ρ (view h) w ρ' (view h') w' ∧ PSame ρ ρ' h.length h'.length := by
      intro todo2 k2 m hs hm hk2 hr2
      obtain ⟨v', w', ρ', fr, h1, rest⟩ := ih m hm F fn g k2 todo2 e h v h' a w ρ b cs hfn hres hk2 he hr hf hd hb hbk hr2
      exact ⟨v', w', ρ', fr, .head hs h1, rest⟩
    cases n with
    | zero => simp [run] at hrun
    | succ n =>
      cases hk with
      | nil =>
        simp only [run] at hrun
        exact fin [] hrun (fun m h => h.trans (.one step_end))
      | inBlock hk =>
        simp only [run] at hrun
        exact on _ _ n step_inBlock (by omega) hk hrun
      | inScope hk =>
        simp only [run] at hrun
        exact on _ _ n step_inScope (by omega) hk hrun
      | inLoop hc hk =>
        simp only [run] at hrun
        exact on _ _ n step_inLoop (by omega) (.code hc (.inLoop hc hk)) hrun
      | @code c rc k t hc hk =>
        cases c with
        | skip =>
          simp only [compileCode] at hc; injection hc with hc; subst hc
          simp only [run] at hrun
          exact on _ _ n step_skip (by omega) hk hrun
        | label l =>
          simp only [compileCode] at hc; injection hc with hc; subst hc
          simp only [run] at hrun
          exact on _ _ n step_label (by omega) hk hrun
        | seq x y =>
          simp only [compileCode] at hc
          split at hc <;> try cases hc
          rename_i x' y' h1 h2
          simp only [run] at hrun
          exact on _ _ n step_seq (by omega) (.code h1 (.code h2 hk)) hrun
        | cond c x y =>
          obtain ⟨x', y', rfl, h1, h2, h3⟩ := cond_some hc
          have hcv := ev_rel (a := a) (e := e) (ρ := ρ) h3 (fun t _ => he.val t)
          simp only [run] at hrun
          split at hrun
          · rename_i hev
            rw [hev] at hcv
            exact on _ _ n (step_cond (t := true) hcv.bool_inv) (by omega) (.code h1 hk) hrun
          · rename_i hev
            rw [hev] at hcv
            exact on _ _ n (step_cond (t := false) hcv.bool_inv) (by omega) (.code h2 hk) hrun
          · cases hrun
        | block id x =>
          simp only [compileCode] at hc
          split at hc <;> try cases hc
          rename_i x' h1
          simp only [run] at hrun
          exact on _ _ n step_block (by omega) (.code h1 (.inBlock hk)) hrun
        | scope x =>
          simp only [compileCode] at hc
          split at hc <;> try cases hc
          rename_i x' h1
          simp only [run] at hrun
          exact on _ _ n step_scope (by omega) (.code h1 (.inScope hk)) hrun
        | loop x =>
          simp only [compileCode] at hc
          split at hc <;> try cases hc
          rename_i x' h1
          simp only [run] at hrun
          exact on _ _ n step_loop (by omega) (.code h1 (.inLoop h1 hk)) hrun
        | exit id =>
          simp only [compileCode] at hc; injection hc with hc; subst hc
          simp only [run] at hrun
          split at hrun <;> try cases hrun
          rename_i k' hex
          obtain ⟨t', h1, h2⟩ := hk.exit hex
          exact on _ _ n (step_exit h1) (by omega) h2 hrun
        | ret =>
          simp only [compileCode] at hc; injection hc with hc; subst hc
          simp only [run] at hrun
          exact fin _ hrun (fun m h => h.trans (.one step_ret))
        | region id ops draw =>
          simp only [compileCode, compileRegion] at hc
          split at hc <;> try cases hc
          rename_i os hos
          -- behind the statement
          have behind : ∀ (ps : List (Nat × Nat)), rc = .region os ps →
              (∀ (st : Nat → Env × Heap), st 0 = (e, h) → (∀ (j : Nat) o, os[j]? = some o → StepR (CRN T (n + 1)) o (st j) (st (j + 1))) →
                (∀ l j, (l, j) ∈ ps → ∀ ol oj n agg x v, os[l]? = some ol → os[j]? = some oj → ol.op = .load n agg x → oj.op.cls = .W → wanted ol (st l).1 = true → loadV (st l).2 n agg (ev (st l).1 x) = some v →
                  loadV (if l < j then (st (j + 1)).2 else (st j).2) n agg (ev (st l).1 x) = some v) →
                Fresh ρ h.length (st os.length).2.length →
                (Code.region id ops draw).wp P (fun x a' w' => x = .normal ∧ After ρ h w a (st os.length).1 (st os.length).2 a' w') a w) →
              ∃ v' w' ρ' fr, Steps P (lone (b.at a (.code (.region id ops draw) :: t)) cs w) (lone fr cs w') ∧ fr.fn = g ∧ fr.leaving P w' (.returned v') ∧ VRel ρ' v v' ∧ Rel ρ' (view h') w' ∧ Ev ρ (view h) w ρ' (view h') w' ∧ PSame ρ ρ' h.length h'.length := by
            intro ps hrc hwp
            subst hrc
            simp only [run] at hrun
            cases n with
            | zero => simp [run] at hrun
            | succ n =>
              obtain ⟨st, m, L, s0, s1, s2, s3, s4, s5, _⟩ := run_ops T F os (n + 1) 0 ps [] k e h _ hrun
              have s2' : ∀ (j : Nat) o, os[j]? = some o → StepR (CRN T (n + 1 + 1)) o (st j) (st (j + 1)) := fun j o hj => (s2 j o hj).mono (fun _ _ _ _ _ => CRN.mono (by omega))
              have hl1 := states_mono CRN.len s2' 0 os.length (by omega) (Nat.le_refl _)
              rw [s0] at hl1
              have hl2 := run_len T m _ _ _ _ _ _ s3
              obtain ⟨x, a', w1, ⟨hx, ρ1, e1, e2, e3, e4, e5, e6⟩, harr⟩ := hwp st s0 s2' (chk_of_log s4 s5) (hf.first hl2) b t cs
              subst hx
              obtain ⟨v', w', ρ', fr, h1, h2, h3, h4, h5, h6, h7⟩ := ih m (by omega) F fn g k t _ _ v h' a' w1 ρ1 b cs hfn hres hk e1 e2 (Fresh.rest e4 hf e5) (by rw [e6]; exact hd) hb hbk s3
              exact ⟨v', w', ρ', fr, Steps.trans harr h1, h2, h3, h4, h5, e3.trans h6, e4.trans h7 e5 hl2⟩
          cases draw with
          | false =>
            simp only at hc
            injection hc with hc
            refine behind [] hc.symm fun st s0 s2 _ hfs => ?_
            have hlen := (allC_get hos).1
            have := region_plain CS CRN.len hos st s2 ops.toList.length 0 (by omega) ρ a w (by rw [s0]; exact he) (by rw [s0]; exact hr) (by rw [s0, ← hlen]; exact hfs)
            rw [s0] at this
            refine wp_region ?_
            rw [hlen]
            have hsz : List.range ops.size = List.range' 0 ops.toList.length := by rw [List.range_eq_range']; simp
            rw [hsz]
            simpa using this
          | true =>
            simp only at hc
            split at hc <;> try cases hc
            rename_i hdr
            refine behind _ rfl fun st s0 s2 hchk hfs => ?_
            have hlen := (allC_get hos).1
            unfold drawOk at hdr
            simp only [Bool.and_eq_true, List.all_eq_true] at hdr
            have D : Draw P (CRN T (n + 1)) ops.toList os (floats (befs ops.toList []) os) st :=
              ⟨hos, hdr.1, fun i j hj hi => hdr.2 i (by simpa using hi) j (by simpa using hj), s2, hchk, CRN.len, CS⟩
            have I : DInv ops.toList os st ρ a w (Array.replicate ops.toList.length false) a { w with drawn := w.drawn + 1 } ρ (fun _ => none) 0 := by
              have hno : ∀ i, ¬ isL (Array.replicate ops.toList.length false) i := by
                intro i hi
                unfold isL at hi
                simp only [Array.getD_eq_getD_getElem?, Array.getElem?_replicate] at hi
                split at hi <;> simp at hi
              refine ⟨by simp, fun i o _ hi => absurd hi (hno i), fun j _ => ⟨fun h => absurd h (hno j), fun h => absurd h (by omega)⟩, by omega, fun k hk => absurd hk (by omega), fun id b => ⟨fun h => (by cases h), fun ⟨i, _, _, hi, _⟩ => absurd hi (hno i)⟩, ?_, ?_, fun id _ => rfl, fun id i1 i2 _ => ?_, ?_, ?_, rfl⟩
              · rw [s0]; exact hr.drew.sub (fun id b hb => by simpa using hb)
              · rw [s0]; exact (Ev.drew ρ (view h) w).sub (fun id b hb => by simpa using hb)
              · rw [s0] at i1
                exact hfs id i1 (by rw [hlen]; exact i2)
              · rw [s0]; exact he.size
              · rintro t x (⟨i, _, hi, _⟩ | ⟨_, rfl⟩)
                · exact absurd hi (hno i)
                · rw [s0]; exact he.val t
            have := region_draw D ops.toList.length _ a { w with drawn := w.drawn + 1 } ρ _ 0 I (by unfold toCome; exact Nat.le_trans (List.length_filter_le _ _) (by simp))
            rw [s0] at this
            refine wp_region_any hmix ?_
            rw [hlen]
            simpa using this
        | _ => simp [compileCode] at hc
end Go.Sim
