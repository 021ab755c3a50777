/-
  Rules for rewriting: a run from here, step by step.
-/
import Derived.Test.YtlflfkdnpalhlaaSimM
namespace Go.Sim

section
variable {T : Tab} {F : RFunc} {k : List RItem} {e : Env} {h : Heap} {R : Value → Heap → Prop}

theorem ex_some {α β : Type} {a : α} {b : β} {P : α → β → Prop} : (∃ v h', some (a, b) = some (v, h') ∧ P v h') ↔ P a b := by
  constructor
  · rintro ⟨v, h', he, hp⟩; injection he with he; injection he with h1 h2; subst h1; subst h2; exact hp
  · exact fun hp => ⟨a, b, rfl, hp⟩

theorem s_op {d : Option Tmp} {op : ROp} {os : List ROper} {i : Nat} (hn : ∀ f args, op ≠ .call f args) :
    Ok T F (.ops (⟨d, op, none⟩ :: os) i [] [] :: k) e h R ↔ ∃ v h', stepOp op e h = some (v, h') ∧ Ok T F (.ops os 0 [] [] :: k) (put e d v) h' R := by
  have hidx : ∀ (os : List ROper) (n i j : Nat) (e : Env) (h : Heap), run T n F (.ops os i [] [] :: k) e h = run T n F (.ops os j [] [] :: k) e h := by
    intro os
    induction os with
    | nil => intro n i j e h; cases n <;> simp [run]
    | cons o os ih =>
      intro n i j e h
      cases n with
      | zero => simp [run]
      | succ n =>
        simp only [run, book, bookU]
        repeat' split
        all_goals first | rfl | exact ih _ _ _ _ _
  constructor
  · rintro ⟨n, v, h', h1, h2⟩
    cases n with
    | zero => simp [run] at h1
    | succ n =>
      have hw : wanted ⟨d, op, none⟩ e = true := rfl
      cases hs : stepOp op e h with
      | none =>
        exfalso
        simp only [run, hw] at h1
        cases op <;> first | (simp only [hs] at h1; cases h1; done) | exact absurd rfl (hn _ _)
      | some vh =>
        obtain ⟨v1, h1'⟩ := vh
        refine ⟨v1, h1', rfl, n, v, h', ?_, h2⟩
        have := h1
        simp only [run, hw] at this
        cases op <;> first | (simp only [hs, book] at this; rw [hidx os n 0 (i + 1)]; exact this) | exact absurd rfl (hn _ _)
  · rintro ⟨v1, h1', hs, n, v, h', h1, h2⟩
    refine (ok_op rfl hn hs).2 ⟨n, v, h', ?_, h2⟩
    rw [← h1]
    exact hidx os n (i + 1) 0 _ _

/-- What is done with the outcome of an operation. -/
def opK (o : Option (Value × Heap)) (T : Tab) (F : RFunc) (d : Option Tmp) (os : List ROper) (k : List RItem) (e : Env) (R : Value → Heap → Prop) : Prop :=
  match o with
  | some (v, h) => Ok T F (.ops os 0 [] [] :: k) (put e d v) h R
  | none => False
theorem opK_some {v : Value} {d : Option Tmp} {os : List ROper} : opK (some (v, h)) T F d os k e R = Ok T F (.ops os 0 [] [] :: k) (put e d v) h R := rfl
theorem opK_of {o : Option (Value × Heap)} {v : Value} {d : Option Tmp} {os : List ROper} (ho : o = some (v, h)) : opK o T F d os k e R = Ok T F (.ops os 0 [] [] :: k) (put e d v) h R := by rw [ho]; rfl

/-- What is done at a branch. -/
def brK (c : Value) (T : Tab) (F : RFunc) (a b : RCode) (k : List RItem) (e : Env) (h : Heap) (R : Value → Heap → Prop) : Prop :=
  ∃ t, c = .bool t ∧ (t = true → Ok T F (.code a :: k) e h R) ∧ (t = false → Ok T F (.code b :: k) e h R)
theorem brK_true {a b : RCode} : brK (.bool true) T F a b k e h R = Ok T F (.code a :: k) e h R := by simp [brK]
theorem brK_false {a b : RCode} : brK (.bool false) T F a b k e h R = Ok T F (.code b :: k) e h R := by simp [brK]
theorem brK_bool {t : Bool} {a b : RCode} : brK (.bool t) T F a b k e h R = ((t = true → Ok T F (.code a :: k) e h R) ∧ (t = false → Ok T F (.code b :: k) e h R)) := by simp [brK]

def finK (o : Option (Value × Heap)) (R : Value → Heap → Prop) : Prop :=
  match o with
  | some (v, h) => R v h
  | none => False
theorem finK_some {v : Value} : finK (some (v, h)) R = R v h := rfl

theorem k_op {d : Option Tmp} {op : ROp} {os : List ROper} {i : Nat} (hn : ∀ f args, op ≠ .call f args) :
    Ok T F (.ops (⟨d, op, none⟩ :: os) i [] [] :: k) e h R = opK (stepOp op e h) T F d os k e R := by
  apply propext
  rw [s_op hn]
  constructor
  · rintro ⟨v, h', hs, ho⟩; rw [hs]; exact ho
  · intro hk
    cases hs : stepOp op e h with
    | none => rw [hs] at hk; exact hk.elim
    | some vh => rw [hs] at hk; exact ⟨vh.1, vh.2, rfl, hk⟩

theorem k_cond {c : Operand} {a b : RCode} : Ok T F (.code (.cond c a b) :: k) e h R = brK (ev e c) T F a b k e h R := by
  apply propext
  constructor
  · intro ho
    have hcb : ∃ t, ev e c = .bool t := by
      obtain ⟨n, v, h', h1, _⟩ := ho
      cases n with
      | zero => simp [run] at h1
      | succ n =>
        simp only [run] at h1
        split at h1
        · exact ⟨_, by assumption⟩
        · exact ⟨_, by assumption⟩
        · cases h1
    obtain ⟨t, ht⟩ := hcb
    rw [ok_cond ht] at ho
    exact ⟨t, ht, fun h => by simpa [h] using ho, fun h => by simpa [h] using ho⟩
  · rintro ⟨t, ht, h1, h2⟩
    rw [ok_cond ht]
    cases t
    · exact h2 rfl
    · exact h1 rfl

/-- A guarded operation. -/
theorem k_guard {d : Option Tmp} {op : ROp} {os : List ROper} {i : Nat} {t : Tmp} {want : Bool} {v : Bool} (hv : e[t]? = some (.bool v)) :
    Ok T F (.ops (⟨d, op, some (some t, want)⟩ :: os) i [] [] :: k) e h R =
      if v = want then Ok T F (.ops (⟨d, op, none⟩ :: os) i [] [] :: k) e h R else Ok T F (.ops os 0 [] [] :: k) (put e d undef) h R := by
  have hidx : ∀ (os : List ROper) (n i j : Nat) (e : Env) (h : Heap), run T n F (.ops os i [] [] :: k) e h = run T n F (.ops os j [] [] :: k) e h := by
    intro os
    induction os with
    | nil => intro n i j e h; cases n <;> simp [run]
    | cons o os ih =>
      intro n i j e h
      cases n with
      | zero => simp [run]
      | succ n =>
        simp only [run, book, bookU]
        repeat' split
        all_goals first | rfl | exact ih _ _ _ _ _
  by_cases hvw : v = want
  · rw [if_pos hvw]
    have hw : wanted ⟨d, op, some (some t, want)⟩ e = true := by simp [wanted, hv, hvw]
    have hw' : wanted ⟨d, op, none⟩ e = true := rfl
    have : ∀ n, run T n F (.ops (⟨d, op, some (some t, want)⟩ :: os) i [] [] :: k) e h = run T n F (.ops (⟨d, op, none⟩ :: os) i [] [] :: k) e h := by
      intro n
      cases n with
      | zero => simp [run]
      | succ n => simp only [run, hw, hw']
    unfold Ok
    simp only [this]
  · rw [if_neg hvw]
    have hw : wanted ⟨d, op, some (some t, want)⟩ e = false := by simp [wanted, hv, hvw]
    apply propext
    refine (ok_pass hw).trans ?_
    unfold Ok
    simp only [bookU]
    simp only [hidx os _ (i + 1) 0]

theorem ops_idx : ∀ (os : List ROper) (n i j : Nat) (e : Env) (h : Heap), run T n F (.ops os i [] [] :: k) e h = run T n F (.ops os j [] [] :: k) e h := by
  intro os
  induction os with
  | nil => intro n i j e h; cases n <;> simp [run]
  | cons o os ih =>
    intro n i j e h
    cases n with
    | zero => simp [run]
    | succ n =>
      simp only [run, book, bookU]
      repeat' split
      all_goals first | rfl | exact ih _ _ _ _ _

theorem k_call {d : Option Tmp} {f : FuncId} {args : List Operand} {os : List ROper} {i : Nat} :
    Ok T F (.ops (⟨d, .call (.func f) args, none⟩ :: os) i [] [] :: k) e h R = Ret T f (args.map (ev e)) h fun v h' => Ok T F (.ops os 0 [] [] :: k) (put e d v) h' R := by
  apply propext
  constructor
  · rintro ⟨n, v, h', h1, h2⟩
    cases n with
    | zero => simp [run] at h1
    | succ n =>
      have hw : wanted ⟨d, .call (.func f) args, none⟩ e = true := rfl
      have hce : callee e (.func f) args = some (f, args.map (ev e)) := by simp [callee, ev]
      simp only [run, hw, hce, book] at h1
      cases hG : T f with
      | none => simp only [hG] at h1; cases h1
      | some G =>
        simp only [hG] at h1
        refine ⟨G, hG, ?_⟩
        cases hi : G.iso with
        | true =>
          simp only [hi] at h1
          split at h1 <;> try cases h1
          rename_i hv
          cases hr : run T n G [.code G.body] (mkEnv G (args.map (ev e))) [] with
          | none => rw [hr] at h1; cases h1
          | some vh =>
            obtain ⟨v1, h0⟩ := vh
            rw [hr] at h1
            simp only at h1
            split at h1 <;> try cases h1
            rename_i hna
            rw [ops_idx os n (i + 1) 0] at h1
            exact .inl ⟨rfl, hv, n, v1, h0, hr, hna, n, v, h', h1, h2⟩
        | false =>
          simp only [hi] at h1
          cases hr : run T n G [.code G.body] (mkEnv G (args.map (ev e))) h with
          | none => rw [hr] at h1; cases h1
          | some vh =>
            obtain ⟨v1, h1'⟩ := vh
            rw [hr] at h1
            simp only at h1
            rw [ops_idx os n (i + 1) 0] at h1
            exact .inr ⟨rfl, n, v1, h1', hr, n, v, h', h1, h2⟩
  · intro hc
    refine ok_call rfl rfl (g := f) (vs := args.map (ev e)) (by simp [callee, ev]) (hc.mono fun v h' ho => ?_)
    unfold Ok at ho ⊢
    simp only [book]
    simpa only [ops_idx os _ (i + 1) 0] using ho

theorem ret_eq {g : FuncId} {G : RFunc} {vs : List Value} (hG : T g = some G) (hi : G.iso = false) : Ret T g vs h R = Ok T G [.code G.body] (mkEnv G vs) h R := by
  apply propext
  constructor
  · rintro ⟨G', hG', hor⟩
    rw [hG] at hG'; injection hG' with e; subst e
    rcases hor with ⟨hi', _⟩ | ⟨_, ho⟩
    · rw [hi] at hi'; cases hi'
    · exact ho
  · exact fun ho => ⟨G, hG, .inr ⟨hi, ho⟩⟩

/-- A function that was run beside the heap. -/
theorem ret_iso {g : FuncId} {G : RFunc} {vs : List Value} (hG : T g = some G) (hi : G.iso = true) (hv : vs.all noAddr = true) {n : Nat} {v : Value} (hr : (run T n G [.code G.body] (mkEnv G vs) []).map (·.1) = some v) (hn : noAddr v = true) (hR : R v h) : Ret T g vs h R := by
  cases hx : run T n G [.code G.body] (mkEnv G vs) [] with
  | none => rw [hx] at hr; cases hr
  | some vh =>
    rw [hx] at hr
    simp at hr
    subst hr
    exact ⟨G, hG, .inl ⟨hi, hv, n, vh.1, vh.2, hx, hn, hR⟩⟩

attribute [simp] ev put stepOp opK_some brK_true brK_false finK_some k_op k_cond k_call

@[simp] theorem s_nil {i : Nat} : Ok T F (.ops [] i [] [] :: k) e h R = Ok T F k e h R := propext (ok_ops_nil rfl)
@[simp] theorem s_seq {a b : RCode} : Ok T F (.code (.seq a b) :: k) e h R = Ok T F (.code a :: .code b :: k) e h R := propext ok_seq
@[simp] theorem s_region {os : List ROper} : Ok T F (.code (.region os []) :: k) e h R = Ok T F (.ops os 0 [] [] :: k) e h R := propext ok_region
@[simp] theorem s_skip : Ok T F (.code .skip :: k) e h R = Ok T F k e h R := propext ok_skip
@[simp] theorem s_block {id : Nat} {c : RCode} : Ok T F (.code (.block id c) :: k) e h R = Ok T F (.code c :: .inBlock id :: k) e h R := propext ok_block
@[simp] theorem s_scope {c : RCode} : Ok T F (.code (.scope c) :: k) e h R = Ok T F (.code c :: .inScope :: k) e h R := propext ok_scope
@[simp] theorem s_loop {c : RCode} : Ok T F (.code (.loop c) :: k) e h R = Ok T F (.inLoop c :: k) e h R := propext ok_loop
@[simp] theorem s_inBlock {id : Nat} : Ok T F (.inBlock id :: k) e h R = Ok T F k e h R := propext ok_inBlock
@[simp] theorem s_inScope : Ok T F (.inScope :: k) e h R = Ok T F k e h R := propext ok_inScope
@[simp] theorem s_exit {id : Nat} {k' : List RItem} (hk : exitR id k = some k') : Ok T F (.code (.exit id) :: k) e h R = Ok T F k' e h R := propext (ok_exit hk)
@[simp] theorem s_ret : Ok T F (.code .ret :: k) e h R = finK (finishV F e h) R := by
  apply propext
  rw [ok_ret]
  constructor
  · rintro ⟨v, h', hs, ho⟩; rw [hs]; exact ho
  · intro hk
    cases hs : finishV F e h with
    | none => rw [hs] at hk; exact hk.elim
    | some vh => rw [hs] at hk; exact ⟨vh.1, vh.2, rfl, hk⟩
@[simp] theorem s_end : Ok T F [] e h R = finK (finishV F e h) R := by
  apply propext
  rw [ok_nil]
  constructor
  · rintro ⟨v, h', hs, ho⟩; rw [hs]; exact ho
  · intro hk
    cases hs : finishV F e h with
    | none => rw [hs] at hk; exact hk.elim
    | some vh => rw [hs] at hk; exact ⟨vh.1, vh.2, rfl, hk⟩
end
end Go.Sim
