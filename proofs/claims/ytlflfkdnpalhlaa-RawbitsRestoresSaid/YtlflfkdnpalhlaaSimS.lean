/-
  The rules for a statement whose order is open: what it reads and writes is booked, and looked at behind it.
-/
import Derived.Test.YtlflfkdnpalhlaaSimR
namespace Go.Sim

section
variable {T : Tab} {F : RFunc} {k : List RItem} {e : Env} {h : Heap} {R : Value → Heap → Prop} {p : Nat × Nat} {ps : List (Nat × Nat)} {log : Log} {i : Nat} {os : List ROper} {d : Option Tmp}

def opKP (o : Option (Value × Heap)) (T : Tab) (F : RFunc) (d : Option Tmp) (op : ROp) (os : List ROper) (i : Nat) (ps : List (Nat × Nat)) (log : Log) (k : List RItem) (e : Env) (h : Heap) (R : Value → Heap → Prop) : Prop :=
  match o with
  | some (v, h') => Ok T F (.ops os (i + 1) ps (book ps i op e h h' v log) :: k) (put e d v) h' R
  | none => False
@[simp] theorem opKP_some {v : Value} {h' : Heap} {op : ROp} : opKP (some (v, h')) T F d op os i ps log k e h R = Ok T F (.ops os (i + 1) ps (book ps i op e h h' v log) :: k) (put e d v) h' R := rfl

@[simp] theorem q_regionP : Ok T F (.code (.region os (p :: ps)) :: k) e h R = Ok T F (.ops os 0 (p :: ps) [] :: k) e h R := propext ok_region

@[simp] theorem q_opP {op : ROp} (hn : ∀ f args, op ≠ .call f args) :
    Ok T F (.ops (⟨d, op, none⟩ :: os) i (p :: ps) log :: k) e h R = opKP (stepOp op e h) T F d op os i (p :: ps) log k e h R := by
  apply propext
  have hw : wanted ⟨d, op, none⟩ e = true := rfl
  cases hs : stepOp op e h with
  | some vh => exact ok_op hw hn hs
  | none =>
    constructor
    · rintro ⟨n, v, h', h1, _⟩
      cases n with
      | zero => simp [run] at h1
      | succ n =>
        simp only [run, hw] at h1
        cases op <;> first | (simp only [hs] at h1; cases h1; done) | exact absurd rfl (hn _ _)
    · exact fun hf => hf.elim

@[simp] theorem q_endP : Ok T F (.ops [] i (p :: ps) log :: k) e h R = ((p :: ps).all (chk1 log) = true ∧ Ok T F k e h R) := by
  apply propext
  constructor
  · rintro ⟨n, v, h', h1, h2⟩
    cases n with
    | zero => simp [run] at h1
    | succ n =>
      simp only [run] at h1
      split at h1 <;> try cases h1
      rename_i hc
      exact ⟨hc, n, v, h', h1, h2⟩
  · rintro ⟨hc, ho⟩
    exact (ok_ops_nil hc).2 ho

@[simp] theorem q_callP {f : FuncId} {args : List Operand} :
    Ok T F (.ops (⟨d, .call (.func f) args, none⟩ :: os) i (p :: ps) log :: k) e h R =
      Ret T f (args.map (ev e)) h fun v h' => Ok T F (.ops os (i + 1) (p :: ps) (book (p :: ps) i (.call (.func f) args) e h h' v log) :: k) (put e d v) h' R := by
  apply propext
  constructor
  · rintro ⟨n, v, h', h1, h2⟩
    cases n with
    | zero => simp [run] at h1
    | succ n =>
      have hw : wanted ⟨d, .call (.func f) args, none⟩ e = true := rfl
      have hce : callee e (.func f) args = some (f, args.map (ev e)) := by simp [callee, ev]
      simp only [run, hw, hce] at h1
      cases hG : T f with
      | none => simp only [hG] at h1; cases h1
      | some G =>
        simp only [hG] at h1
        refine ⟨G, hG, ?_⟩
        cases hi : G.iso with
        | true =>
          simp only [hi] at h1
          split at h1 <;> try cases h1
          rename_i hv
          cases hr : run T n G [.code G.body] (mkEnv G (args.map (ev e))) [] with
          | none => rw [hr] at h1; cases h1
          | some vh =>
            obtain ⟨v1, h0⟩ := vh
            rw [hr] at h1
            simp only at h1
            split at h1 <;> try cases h1
            rename_i hna
            exact .inl ⟨rfl, hv, n, v1, h0, hr, hna, n, v, h', h1, h2⟩
        | false =>
          simp only [hi] at h1
          cases hr : run T n G [.code G.body] (mkEnv G (args.map (ev e))) h with
          | none => rw [hr] at h1; cases h1
          | some vh =>
            obtain ⟨v1, h1'⟩ := vh
            rw [hr] at h1
            exact .inr ⟨rfl, n, v1, h1', hr, n, v, h', h1, h2⟩
  · intro hc
    exact ok_call rfl rfl (g := f) (vs := args.map (ev e)) (by simp [callee, ev]) hc

/-- A guarded operation. -/
theorem k_guardP {op : ROp} {t : Tmp} {want : Bool} {v : Bool} (hv : e[t]? = some (.bool v)) :
    Ok T F (.ops (⟨d, op, some (some t, want)⟩ :: os) i (p :: ps) log :: k) e h R =
      if v = want then Ok T F (.ops (⟨d, op, none⟩ :: os) i (p :: ps) log :: k) e h R else Ok T F (.ops os (i + 1) (p :: ps) (bookU (p :: ps) i op h log) :: k) (put e d undef) h R := by
  by_cases hvw : v = want
  · rw [if_pos hvw]
    have hw : wanted ⟨d, op, some (some t, want)⟩ e = true := by simp [wanted, hv, hvw]
    have hw' : wanted ⟨d, op, none⟩ e = true := rfl
    have : ∀ n, run T n F (.ops (⟨d, op, some (some t, want)⟩ :: os) i (p :: ps) log :: k) e h = run T n F (.ops (⟨d, op, none⟩ :: os) i (p :: ps) log :: k) e h := by
      intro n
      cases n with
      | zero => simp [run]
      | succ n => simp only [run, hw, hw']
    unfold Ok
    simp only [this]
  · rw [if_neg hvw]
    have hw : wanted ⟨d, op, some (some t, want)⟩ e = false := by simp [wanted, hv, hvw]
    exact propext (ok_pass hw)
end
end Go.Sim
