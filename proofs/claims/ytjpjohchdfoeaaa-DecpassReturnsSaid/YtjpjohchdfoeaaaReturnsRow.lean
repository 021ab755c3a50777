/-
  DecpassReturns returns true at every input: Values restores a block from the symbols of its passes, and no plane is missing.
  Conditions: none beyond the given statement's own.
-/
import Derived.Test.YtjpjohchdfoeaaaRows
import Derived.Test.YtjpjohchdfoeaaaOnce
import Derived.Test.YtjpjohchdfoeaaaFr
import Derived.Test.YtjpjohchdfoeaaaRet
import Derived.WalkKit
import Derived.ProofKit
import Derived.OpenShut
import Derived.ShutString
import Derived.ChangeOld
import Derived.Below
namespace Go.Proofs.Ytjpjohchdfoeaaa.decpassReturns
open Go.Sim (IsRow rowOf)
open Go.ChangeShapes Go.WideShapes Go.ChangeAt Go.RowKit
open Go.ChangeMaps (open_string shut_string)
set_option linter.unusedVariables false

theorem mixed : Try.prog.follows .mixedOrders = true := by kernel_rfl
theorem own : ownKnob Try.prog.godebug = none := by kernel_rfl
theorem laidOut : laidOutB Try.prog = true := by kernel_rfl


theorem walk {i : Inp} {a : Option Addr} {len cap : Nat} {z : List Int} {a' : Option Addr} {len' cap' : Nat} {z' : List Int} (w : World) (h1 : IsRow .i64 w a len cap z) (h2 : IsRow .u8 w a' len' cap' z') (hx : i.xs = z.take len) (hf : i.fl = len') :
    Calls Try.prog 6 #[i.val (.slice a len cap) (.slice a' len' cap')] w fun e w' => e = .returned (.bool true) ∧ Below w.heap.size w w' :=
  Sim.calls_of_ret Go.Proofs.Ytjpjohchdfoeaaa.tabOk mixed rfl (ret_returns (by rw [hx]; exact ints_row h1 (rs := rowsOf a len cap z a' len' cap' z') (id := 0) rfl) (below_val h2) isCell_val) (Sim.allRo_heapOf _) (Sim.rel_heapOf (rowsOk h1 h2)) (Sim.LRel.cons (vrel_rows h1 h2) (Sim.LRel.nil _)) (Sim.rhoOf_none _)

set_option maxRecDepth 100000 in
theorem lifted (os : Os) (started : os.Started) (H : Type) (enc : TypeId × Value → H) :
    ReturnsInHanded {} Try.checked os 6 .any (Rows.decpassReturnsSpec.pre6 enc Try.prog Try.f6 Rows.decpassReturnsRow.domain false) (Rows.decpassReturnsSpec.post enc Try.prog Try.f6 false true false false) := by
  refine returnsInHanded_of_change (C := Try.checked) own started (by kernel_rfl) Try.func6
    (ChangeSpec.witness6 (enc := enc) (C := Try.checked) false ⟨#[], #[.agg #[.int .i64 0, .int .i64 0, .slice none 0 0, .slice none 0 0, .int .i64 0, .bool false, .bool false, .bool false, .bool false, .bool false]], []⟩ 8 (by kernel_rfl) (by kernel_rfl) (by kernel_rfl) (by kernel_rfl)) ?_
  intro W base args ds gs before hval0 hW hcnd _
  have hval : ∀ (j : Nat) t v, Try.f6.params[j]? = some t → args[j]? = some v → Value.okWide Try.prog W .any base t v := hval0
  have hW' := hW
  obtain ⟨p, q, hA0, hV, rfl, hfz, hnd⟩ := hW
  have hA : DataW.TrodAll enc Try.prog W 0 (fun _ => true) true Try.f6.params.toList args.toList ds p := hA0
  rw [Try.params6] at hA hval
  obtain ⟨v0, vs0, d0, ds0, p0, q0, hargs, rfl, rfl, h0, r0⟩ := trodAll_cons hA
  obtain ⟨rfl, rfl, rfl⟩ := trodAll_nil r0
  obtain rfl : args = #[v0] := by cases args; simp_all
  obtain ⟨rfl, rfl⟩ := trodVars_none hV
  obtain ⟨i, a, len, cap, z, a', len', cap', z', rfl, r1, r2, hx, hfl⟩ := open_block (hval 0 28 v0 rfl rfl) h0
  have k0 := h0
  have lt0 : ∀ x ∈ p0, x.block < W.heap.size := by obtain ⟨m, hm⟩ := k0; exact DataW.trod_lt m _ _ _ hm
  clear hA0 hval0
  refine (walk W r1 r2 hx hfl).mono fun e W' ⟨he, bel⟩ => ?_
  subst he
  exact ⟨_, rfl, _, _, _, [], _, [], hW', trodAll_mk1 (shut_bool Try.underlying4 _), (trodAll_cons_mk (Below.trod laidOut (by kernel_rfl) (of_decide_eq_true (by kernel_rfl)) k0 bel lt0) trodAll_mk0), rfl, bel.frame _, fun h => by cases h⟩

set_option maxRecDepth 100000 in
set_option maxHeartbeats 8000000 in
theorem closed : joinedFacts Try.prog 6 Try.f6 Rows.decpassReturnsSpec Rows.decpassReturnsRow = true := by
  unfold joinedFacts
  rw [once_all.1, once_all.2.1, once_all.2.2]
  repeat' (with_reducible apply and_intro)
  all_goals (as_aux_lemma => kernel_rfl)
set_option maxHeartbeats 8000000 in
theorem over : Rows.decpassReturnsRow.holds Try.pinned (OpenSpec.ofChange Rows.decpassReturnsSpec) :=
  OpenClaim.holds_of_wide 6 Try.f6 rfl rfl rfl rfl rfl rfl rfl ⟨rfl, rfl, rfl, rfl, rfl⟩ rfl rfl rfl rfl rfl (by as_aux_lemma => kernel_rfl) Try.func6 closed
    (of_decide_eq_true (by as_aux_lemma => kernel_rfl)) (by unfold Func.isWrapper; first | (rw [if_pos (by decide +kernel)]; kernel_rfl) | (rw [if_neg (by decide +kernel)]; exact ⟨rfl, rfl⟩))
    (fun os started H enc _ => lifted os started H enc)

/-- The statement. -/
theorem proved : Rows.DecpassReturnsSaid := over
#print axioms proved
end Go.Proofs.Ytjpjohchdfoeaaa.decpassReturns
