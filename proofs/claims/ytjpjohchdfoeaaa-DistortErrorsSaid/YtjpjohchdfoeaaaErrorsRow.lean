/-
  DistortErrors returns true at every input: Error returns the error of a coefficient.
  Conditions: none beyond the given statement's own.
-/
import Derived.Test.YtjpjohchdfoeaaaRows
import Derived.Test.YtjpjohchdfoeaaaOnce
import Derived.Test.YtjpjohchdfoeaaaRet
import Derived.WalkKit
import Derived.ProofKit
import Derived.OpenShut
import Derived.ShutString
import Derived.ChangeOld
import Derived.Below
namespace Go.Proofs.Ytjpjohchdfoeaaa.distortErrors
open Go.Sim (IsRow rowOf)
open Go.ChangeShapes Go.WideShapes Go.ChangeAt Go.RowKit
set_option linter.unusedVariables false
set_option linter.unusedSimpArgs false

theorem mixed : Try.prog.follows .mixedOrders = true := by kernel_rfl
theorem own : ownKnob Try.prog.godebug = none := by kernel_rfl
theorem laidOut : laidOutB Try.prog = true := by kernel_rfl

theorem walk (w : World) (x0 : Int) (w0 : (Lit.int .i64 x0).wf = true) (x1 : Int) (w1 : (Lit.int .i64 x1).wf = true) (x2 : Int) (w2 : (Lit.int .i64 x2).wf = true) (x3 : Int) (w3 : (Lit.int .i64 x3).wf = true) (x4 : Int) (w4 : (Lit.int .i64 x4).wf = true) :
    Calls Try.prog 15 #[(.int .i64 x0), .agg #[(.int .i64 x1), (.int .i64 x2)], .agg #[(.int .i64 x3), (.int .i64 x4)]] w fun e w' => e = .returned (.bool true) ∧ Below w.heap.size w w' :=
  Sim.calls_of_ret (h := Sim.heapOf []) Go.Proofs.Ytjpjohchdfoeaaa.tabOk mixed rfl (ret_errors w0 w1) (Sim.allRo_heapOf _) (Sim.rel_heapOf (by simp)) (Sim.LRel.cons (.int _ _) (Sim.LRel.cons (Sim.LRel.agg (l := [(.int .i64 x1), (.int .i64 x2)]) (l' := [(.int .i64 x1), (.int .i64 x2)]) (.cons (.int _ _) (.cons (.int _ _) (Sim.LRel.nil _))) (Sim.all_cons rfl (Sim.all_cons rfl (Sim.all_nil)))) (Sim.LRel.cons (Sim.LRel.agg (l := [(.int .i64 x3), (.int .i64 x4)]) (l' := [(.int .i64 x3), (.int .i64 x4)]) (.cons (.int _ _) (.cons (.int _ _) (Sim.LRel.nil _))) (Sim.all_cons rfl (Sim.all_cons rfl (Sim.all_nil)))) (Sim.LRel.nil _)))) (Sim.rhoOf_none _)

set_option maxRecDepth 100000 in
theorem lifted (os : Os) (started : os.Started) (H : Type) (enc : TypeId × Value → H) :
    ReturnsInHanded {} Try.checked os 15 .any (Rows.distortErrorsSpec.pre6 enc Try.prog Try.f15 Rows.distortErrorsRow.domain false) (Rows.distortErrorsSpec.post enc Try.prog Try.f15 false true false false) := by
  refine returnsInHanded_of_change (C := Try.checked) own started (by kernel_rfl) Try.func15
    (ChangeSpec.witness6 (enc := enc) (C := Try.checked) false ⟨#[], #[.int .i64 0, .agg #[.int .i64 0, .int .i64 0], .agg #[.int .i64 0, .int .i64 0]], []⟩ 8 (by kernel_rfl) (by kernel_rfl) (by kernel_rfl) (by kernel_rfl)) ?_
  intro W base args ds gs before hval0 hW hcnd _
  have hval : ∀ (j : Nat) t v, Try.f15.params[j]? = some t → args[j]? = some v → Value.okWide Try.prog W .any base t v := hval0
  have hW' := hW
  obtain ⟨p, q, hA0, hV, rfl, hfz, hnd⟩ := hW
  have hA : DataW.TrodAll enc Try.prog W 0 (fun _ => true) true Try.f15.params.toList args.toList ds p := hA0
  rw [Try.params15] at hA hval
  obtain ⟨v0, vs0, d0, ds0, p0, q0, hargs, rfl, rfl, h0, t0⟩ := trodAll_cons hA
  obtain ⟨v1, vs1, d1, ds1, p1, q1, rfl, rfl, rfl, h1, t1⟩ := trodAll_cons t0
  obtain ⟨v2, vs2, d2, ds2, p2, q2, rfl, rfl, rfl, h2, t2⟩ := trodAll_cons t1
  obtain ⟨rfl, rfl, rfl⟩ := trodAll_nil t2
  obtain rfl : args = #[v0, v1, v2] := by cases args; simp_all
  obtain ⟨rfl, rfl⟩ := trodVars_none hV
  have k0 := h0
  have lt0 : ∀ x ∈ p0, x.block < W.heap.size := by obtain ⟨m, hm⟩ := k0; exact DataW.trod_lt m _ _ _ hm
  have k1 := h1
  have lt1 : ∀ x ∈ p1, x.block < W.heap.size := by obtain ⟨m, hm⟩ := k1; exact DataW.trod_lt m _ _ _ hm
  have k2 := h2
  have lt2 : ∀ x ∈ p2, x.block < W.heap.size := by obtain ⟨m, hm⟩ := k2; exact DataW.trod_lt m _ _ _ hm
  obtain ⟨f0, g0⟩ := Sim.open_flat (l := [.int .i64]) 6 (by kernel_rfl) (hval 0 3 v0 rfl rfl) h0
  clear f0 g0
  obtain ⟨x0, rfl, rfl, rfl, w0⟩ := open_int Try.underlying3 (hval 0 3 v0 rfl rfl) h0
  obtain ⟨f1, g1⟩ := Sim.open_flat (l := [.int .i64, .int .i64]) 6 (by kernel_rfl) (hval 1 77 v1 rfl rfl) h1
  obtain ⟨⟨cs1⟩, rfl⟩ := g1 (by kernel_rfl)
  have f1 : Sim.Fits W [.int .i64, .int .i64] cs1 := f1
  obtain ⟨u1_0, m1_0, rfl, e1_0, n1_0⟩ := Sim.Fits.cons f1
  obtain ⟨u1_1, m1_1, rfl, e1_1, n1_1⟩ := Sim.Fits.cons n1_0
  obtain rfl := Sim.Fits.nil n1_1
  obtain ⟨x1, rfl, w1⟩ := e1_0
  obtain ⟨x2, rfl, w2⟩ := e1_1
  obtain ⟨f2, g2⟩ := Sim.open_flat (l := [.int .i64, .int .i64]) 6 (by kernel_rfl) (hval 2 77 v2 rfl rfl) h2
  obtain ⟨⟨cs2⟩, rfl⟩ := g2 (by kernel_rfl)
  have f2 : Sim.Fits W [.int .i64, .int .i64] cs2 := f2
  obtain ⟨u2_0, m2_0, rfl, e2_0, n2_0⟩ := Sim.Fits.cons f2
  obtain ⟨u2_1, m2_1, rfl, e2_1, n2_1⟩ := Sim.Fits.cons n2_0
  obtain rfl := Sim.Fits.nil n2_1
  obtain ⟨x3, rfl, w3⟩ := e2_0
  obtain ⟨x4, rfl, w4⟩ := e2_1
  clear hA0 hval0
  refine (walk W x0 w0 x1 w1 x2 w2 x3 w3 x4 w4).mono fun e W' ⟨he, bel⟩ => ?_
  subst he
  exact ⟨_, rfl, _, _, _, [], _, [], hW', trodAll_mk1 (shut_bool Try.underlying4 _), (trodAll_cons_mk (Below.trod laidOut (by kernel_rfl) (of_decide_eq_true (by kernel_rfl)) k0 bel lt0) (trodAll_cons_mk (Below.trod laidOut (by kernel_rfl) (of_decide_eq_true (by kernel_rfl)) k1 bel lt1) (trodAll_cons_mk (Below.trod laidOut (by kernel_rfl) (of_decide_eq_true (by kernel_rfl)) k2 bel lt2) (trodAll_mk0)))), rfl, bel.frame _, fun h => by cases h⟩

set_option maxRecDepth 100000 in
set_option maxHeartbeats 8000000 in
theorem closed : joinedFacts Try.prog 15 Try.f15 Rows.distortErrorsSpec Rows.distortErrorsRow = true := by
  unfold joinedFacts
  rw [once_all.1, once_all.2.1, once_all.2.2]
  repeat' (with_reducible apply and_intro)
  all_goals (as_aux_lemma => kernel_rfl)
set_option maxHeartbeats 8000000 in
theorem over : Rows.distortErrorsRow.holds Try.pinned (OpenSpec.ofChange Rows.distortErrorsSpec) :=
  OpenClaim.holds_of_wide 15 Try.f15 rfl rfl rfl rfl rfl rfl rfl ⟨rfl, rfl, rfl, rfl, rfl⟩ rfl rfl rfl rfl rfl (by as_aux_lemma => kernel_rfl) Try.func15 closed
    (of_decide_eq_true (by as_aux_lemma => kernel_rfl)) (by unfold Func.isWrapper; first | (rw [if_pos (by decide +kernel)]; kernel_rfl) | (rw [if_neg (by decide +kernel)]; exact ⟨rfl, rfl⟩))
    (fun os started H enc _ => lifted os started H enc)

/-- The statement. -/
theorem proved : Rows.DistortErrorsSaid := over
#print axioms proved
end Go.Proofs.Ytjpjohchdfoeaaa.distortErrors
