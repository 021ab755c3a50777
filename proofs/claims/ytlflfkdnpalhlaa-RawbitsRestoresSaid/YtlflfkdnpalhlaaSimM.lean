/-
  Reasoning about the evaluator: what a run comes to.
-/
import Derived.Test.YtlflfkdnpalhlaaSimL
namespace Go.Sim

theorem run_mono (T : Tab) : ∀ (n m : Nat) (F : RFunc) (k : List RItem) (e : Env) (h : Heap) (r : Value × Heap), n ≤ m → run T n F k e h = some r → run T m F k e h = some r := by
  intro n
  induction n with
  | zero => intro m F k e h r _ hr; simp [run] at hr
  | succ n ih =>
    intro m F k e h r hm hr
    obtain ⟨m, rfl⟩ : ∃ m', m = m' + 1 := ⟨m - 1, by omega⟩
    have hm' : n ≤ m := by omega
    have ih' := fun F k e h r => ih m F k e h r hm'
    cases k with
    | nil => simpa only [run] using hr
    | cons x k =>
      cases x with
      | inBlock id => simp only [run] at hr ⊢; exact ih' _ _ _ _ _ hr
      | inScope => simp only [run] at hr ⊢; exact ih' _ _ _ _ _ hr
      | inLoop c => simp only [run] at hr ⊢; exact ih' _ _ _ _ _ hr
      | ops os i ps log =>
        cases os with
        | nil =>
          simp only [run] at hr ⊢
          split at hr <;> try cases hr
          rename_i hc
          rw [if_pos hc]; exact ih' _ _ _ _ _ hr
        | cons o os =>
          simp only [run] at hr ⊢
          split at hr
          · exact ih' _ _ _ _ _ hr
          · split at hr
            · rename_i f args hop
              cases hg : callee e f args with
              | none => rw [hg] at hr; cases hr
              | some gv =>
                obtain ⟨g, vs⟩ := gv
                rw [hg] at hr
                cases hG : T g with
                | none => simp only [hG] at hr; cases hr
                | some G =>
                  simp only [hG] at hr ⊢
                  cases hi : G.iso with
                  | true =>
                    simp only [hi] at hr ⊢
                    split at hr <;> try cases hr
                    rename_i hv
                    rw [if_pos hv]
                    cases hrun : run T n G [.code G.body] (mkEnv G vs) [] with
                    | none => rw [hrun] at hr; cases hr
                    | some vh =>
                      obtain ⟨v, h0⟩ := vh
                      rw [hrun] at hr
                      rw [ih' _ _ _ _ _ hrun]
                      simp only at hr ⊢
                      split at hr <;> try cases hr
                      rename_i hn
                      rw [if_pos hn]; exact ih' _ _ _ _ _ hr
                  | false =>
                    simp only [hi] at hr ⊢
                    cases hrun : run T n G [.code G.body] (mkEnv G vs) h with
                    | none => rw [hrun] at hr; cases hr
                    | some vh =>
                      obtain ⟨v, h1⟩ := vh
                      rw [hrun] at hr
                      rw [ih' _ _ _ _ _ hrun]
                      exact ih' _ _ _ _ _ hr
            · split at hr <;> try cases hr
              rename_i hs
              exact ih' _ _ _ _ _ hr
      | code c =>
        cases c <;> simp only [run] at hr ⊢
        case ret => exact hr
        case cond => split at hr <;> first | (cases hr; done) | exact ih' _ _ _ _ _ hr
        case exit => split at hr <;> first | (cases hr; done) | exact ih' _ _ _ _ _ hr
        all_goals exact ih' _ _ _ _ _ hr

/-- A run from here comes to an end that meets R. -/
def Ok (T : Tab) (F : RFunc) (k : List RItem) (e : Env) (h : Heap) (R : Value → Heap → Prop) : Prop := ∃ n v h', run T n F k e h = some (v, h') ∧ R v h'

/-- A call comes to an end that meets R. -/
def Ret (T : Tab) (g : FuncId) (vs : List Value) (h : Heap) (R : Value → Heap → Prop) : Prop :=
  ∃ G, T g = some G ∧ ((G.iso = true ∧ vs.all noAddr = true ∧ Ok T G [.code G.body] (mkEnv G vs) [] fun v _ => noAddr v = true ∧ R v h) ∨ (G.iso = false ∧ Ok T G [.code G.body] (mkEnv G vs) h R))

section
variable {T : Tab} {F : RFunc} {k : List RItem} {e : Env} {h : Heap} {R : Value → Heap → Prop}

theorem Ok.mono {R' : Value → Heap → Prop} (ho : Ok T F k e h R) (hr : ∀ v h, R v h → R' v h) : Ok T F k e h R' :=
  let ⟨n, v, h', h1, h2⟩ := ho; ⟨n, v, h', h1, hr _ _ h2⟩
theorem Ret.mono {g : FuncId} {vs : List Value} {R' : Value → Heap → Prop} (ho : Ret T g vs h R) (hr : ∀ v h, R v h → R' v h) : Ret T g vs h R' := by
  obtain ⟨G, hG, hor⟩ := ho
  refine ⟨G, hG, hor.imp (fun ⟨a, b, c⟩ => ⟨a, b, c.mono fun v _ ⟨d, f⟩ => ⟨d, hr _ _ f⟩⟩) (fun ⟨a, b⟩ => ⟨a, b.mono hr⟩)⟩

theorem Ok.iff_step {k' : List RItem} {e' : Env} {h' : Heap} (hs : ∀ n, run T (n + 1) F k e h = run T n F k' e' h') : Ok T F k e h R ↔ Ok T F k' e' h' R := by
  constructor
  · rintro ⟨n, v, h1, h2, h3⟩
    cases n with
    | zero => simp [run] at h2
    | succ n => exact ⟨n, v, h1, by rw [← hs]; exact h2, h3⟩
  · rintro ⟨n, v, h1, h2, h3⟩
    exact ⟨n + 1, v, h1, by rw [hs]; exact h2, h3⟩

theorem ok_skip : Ok T F (.code .skip :: k) e h R ↔ Ok T F k e h R := Ok.iff_step fun _ => by simp only [run]
theorem ok_region {os : List ROper} {ps : List (Nat × Nat)} : Ok T F (.code (.region os ps) :: k) e h R ↔ Ok T F (.ops os 0 ps [] :: k) e h R := Ok.iff_step fun _ => by simp only [run]
theorem ok_seq {a b : RCode} : Ok T F (.code (.seq a b) :: k) e h R ↔ Ok T F (.code a :: .code b :: k) e h R := Ok.iff_step fun _ => by simp only [run]
theorem ok_block {id : Nat} {c : RCode} : Ok T F (.code (.block id c) :: k) e h R ↔ Ok T F (.code c :: .inBlock id :: k) e h R := Ok.iff_step fun _ => by simp only [run]
theorem ok_scope {c : RCode} : Ok T F (.code (.scope c) :: k) e h R ↔ Ok T F (.code c :: .inScope :: k) e h R := Ok.iff_step fun _ => by simp only [run]
theorem ok_loop {c : RCode} : Ok T F (.code (.loop c) :: k) e h R ↔ Ok T F (.inLoop c :: k) e h R :=
  (Ok.iff_step (k' := .code c :: .inLoop c :: k) (e' := e) (h' := h) fun _ => by simp only [run]).trans (Ok.iff_step fun _ => by simp only [run]).symm
theorem ok_round {c : RCode} : Ok T F (.inLoop c :: k) e h R ↔ Ok T F (.code c :: .inLoop c :: k) e h R := Ok.iff_step fun _ => by simp only [run]
theorem ok_inBlock {id : Nat} : Ok T F (.inBlock id :: k) e h R ↔ Ok T F k e h R := Ok.iff_step fun _ => by simp only [run]
theorem ok_inScope : Ok T F (.inScope :: k) e h R ↔ Ok T F k e h R := Ok.iff_step fun _ => by simp only [run]
theorem ok_cond {c : Operand} {a b : RCode} {t : Bool} (hc : ev e c = .bool t) : Ok T F (.code (.cond c a b) :: k) e h R ↔ Ok T F (.code (if t = true then a else b) :: k) e h R :=
  Ok.iff_step fun _ => by cases t <;> simp [run, hc]
theorem ok_exit {id : Nat} {k' : List RItem} (hk : exitR id k = some k') : Ok T F (.code (.exit id) :: k) e h R ↔ Ok T F k' e h R := Ok.iff_step fun _ => by simp only [run, hk]

theorem ok_end_iff (hs : ∀ n, run T (n + 1) F k e h = finishV F e h) : Ok T F k e h R ↔ ∃ v h', finishV F e h = some (v, h') ∧ R v h' := by
  constructor
  · rintro ⟨n, v, h1, h2, h3⟩
    cases n with
    | zero => simp [run] at h2
    | succ n => exact ⟨v, h1, by rw [← hs n]; exact h2, h3⟩
  · rintro ⟨v, h1, h2, h3⟩
    exact ⟨1, v, h1, by rw [hs 0]; exact h2, h3⟩
theorem ok_ret : Ok T F (.code .ret :: k) e h R ↔ ∃ v h', finishV F e h = some (v, h') ∧ R v h' := ok_end_iff fun _ => by simp only [run]
theorem ok_nil : Ok T F [] e h R ↔ ∃ v h', finishV F e h = some (v, h') ∧ R v h' := ok_end_iff fun _ => by simp only [run]

theorem ok_ops_nil {i : Nat} {ps : List (Nat × Nat)} {log : Log} (hc : ps.all (chk1 log) = true) : Ok T F (.ops [] i ps log :: k) e h R ↔ Ok T F k e h R :=
  Ok.iff_step fun _ => by simp only [run]; rw [if_pos hc]

/-- An operation that is no call. -/
theorem ok_op {o : ROper} {os : List ROper} {i : Nat} {ps : List (Nat × Nat)} {log : Log} (hw : wanted o e = true) (hn : ∀ f args, o.op ≠ .call f args) {v : Value} {h' : Heap} (hs : stepOp o.op e h = some (v, h')) :
    Ok T F (.ops (o :: os) i ps log :: k) e h R ↔ Ok T F (.ops os (i + 1) ps (book ps i o.op e h h' v log) :: k) (put e o.dst v) h' R := by
  refine Ok.iff_step fun n => ?_
  obtain ⟨dst, op, guard⟩ := o
  simp only [run, hw]
  cases op <;> first | (simp only [hs]; done) | exact absurd rfl (hn _ _)

theorem ok_pass {o : ROper} {os : List ROper} {i : Nat} {ps : List (Nat × Nat)} {log : Log} (hw : wanted o e = false) :
    Ok T F (.ops (o :: os) i ps log :: k) e h R ↔ Ok T F (.ops os (i + 1) ps (bookU ps i o.op h log) :: k) (put e o.dst undef) h R :=
  Ok.iff_step fun n => by simp only [run, hw]

/-- A call. -/
theorem ok_call {o : ROper} {os : List ROper} {i : Nat} {ps : List (Nat × Nat)} {log : Log} (hw : wanted o e = true) {f : Operand} {args : List Operand} (hop : o.op = .call f args) {g : FuncId} {vs : List Value} (hce : callee e f args = some (g, vs))
    (hc : Ret T g vs h fun v h' => Ok T F (.ops os (i + 1) ps (book ps i o.op e h h' v log) :: k) (put e o.dst v) h' R) :
    Ok T F (.ops (o :: os) i ps log :: k) e h R := by
  obtain ⟨G, hG, hor⟩ := hc
  rcases hor with ⟨hi, hv, n, v, h1, hr, hna, m, v2, h2, hr2, hR⟩ | ⟨hi, n, v, h1, hr, m, v2, h2, hr2, hR⟩
  · refine ⟨max n m + 1, v2, h2, ?_, hR⟩
    simp only [run, hw, hop, hce, hG, hi]
    rw [if_pos hv, run_mono T n (max n m) _ _ _ _ _ (by omega) hr]
    simp only
    rw [if_pos hna]
    rw [hop] at hr2
    exact run_mono T m (max n m) _ _ _ _ _ (by omega) hr2
  · refine ⟨max n m + 1, v2, h2, ?_, hR⟩
    simp only [run, hw, hop, hce, hG, hi]
    rw [run_mono T n (max n m) _ _ _ _ _ (by omega) hr]
    rw [hop] at hr2
    exact run_mono T m (max n m) _ _ _ _ _ (by omega) hr2
end
end Go.Sim
