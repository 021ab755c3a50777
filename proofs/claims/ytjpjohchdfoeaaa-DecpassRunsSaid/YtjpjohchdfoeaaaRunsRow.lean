/-
  DecpassRuns returns true at every input: the contexts that are asked for, the error, the values and the flags after each of at most 12 passes are the reference's.
  Conditions: none beyond the given statement's own.
-/
import Derived.Test.YtjpjohchdfoeaaaRows
import Derived.Test.YtjpjohchdfoeaaaOnce
import Derived.Test.YtjpjohchdfoeaaaFr
import Derived.Test.YtjpjohchdfoeaaaRuns2
import Derived.WalkKit
import Derived.ProofKit
import Derived.OpenShut
import Derived.ShutString
import Derived.ChangeOld
import Derived.Below
namespace Go.Proofs.Ytjpjohchdfoeaaa.decpassRuns
open Go.Sim (IsRow rowOf)
open Go.ChangeShapes Go.WideShapes Go.ChangeAt Go.RowKit
open Go.ChangeMaps (open_string shut_string)
set_option linter.unusedVariables false

theorem mixed : Try.prog.follows .mixedOrders = true := by kernel_rfl
theorem own : ownKnob Try.prog.godebug = none := by kernel_rfl
theorem laidOut : laidOutB Try.prog = true := by kernel_rfl


theorem walk {i : Inp} {a : Option Addr} {len cap : Nat} {z : List Int} {a' : Option Addr} {len' cap' : Nat} {z' : List Int} {a1 : Option Addr} {len1 cap1 : Nat} {z1 : List Int} {a2 : Option Addr} {len2 cap2 : Nat} {z2 : List Int} {a3 : Option Addr} {len3 cap3 : Nat} {z3 : List Int} (w : World)
    (h1 : IsRow .i64 w a len cap z) (h2 : IsRow .u8 w a' len' cap' z') (h3 : IsRow .i64 w a1 len1 cap1 z1) (h4 : IsRow .i64 w a2 len2 cap2 z2) (h5 : IsRow .i64 w a3 len3 cap3 z3) (hx : i.xs = z.take len) (hf : i.fl = len') :
    Calls Try.prog 3 #[i.val (.slice a len cap) (.slice a' len' cap'), .slice a1 len1 cap1, .slice a2 len2 cap2, .slice a3 len3 cap3] w fun e w' => e = .returned (.bool true) ∧ Below w.heap.size w w' := by
  have e1 : (z'.take len').length = len' := by have := h2.le; simp; omega
  have hv : Sim.below (Sim.heapOf [rowOf .i64 a len cap z, rowOf .u8 a' len' cap' z', rowOf .i64 a1 len1 cap1 z1, rowOf .i64 a2 len2 cap2 z2, rowOf .i64 a3 len3 cap3 z3]).length ((rowOf .u8 a' len' cap' z').val 1) = true := by
    unfold Sim.Row.val
    split
    · simp
    · simp [Sim.heapOf]
  refine Sim.calls_of_ret Go.Proofs.Ytjpjohchdfoeaaa.tabOk mixed rfl (ret_runs (zs := z'.take len') (by rw [hx]; exact ints_row h1 (rs := [rowOf .i64 a len cap z, rowOf .u8 a' len' cap' z', rowOf .i64 a1 len1 cap1 z1, rowOf .i64 a2 len2 cap2 z2, rowOf .i64 a3 len3 cap3 z3]) (id := 0) rfl) (by rw [e1]; exact h2.sl (id := 1) rfl) hv isCell_val (ints_row h3 (id := 2) rfl) (ints_row h4 (id := 3) rfl) (ints_row h5 (id := 4) rfl)) (Sim.allRo_heapOf _) (Sim.rel_heapOf ?_)
    (Sim.LRel.cons (vrel_block (Sim.vrel_row (r := rowOf .i64 a len cap z) rfl h1.ok (by simp [rowOf])) (Sim.vrel_row (r := rowOf .u8 a' len' cap' z') rfl h2.ok (by simp [rowOf])) isCell_val isCell_val) (Sim.LRel.cons (Sim.vrel_row (r := rowOf .i64 a1 len1 cap1 z1) rfl h3.ok (by simp [rowOf])) (Sim.LRel.cons (Sim.vrel_row (r := rowOf .i64 a2 len2 cap2 z2) rfl h4.ok (by simp [rowOf])) (Sim.LRel.cons (Sim.vrel_row (r := rowOf .i64 a3 len3 cap3 z3) rfl h5.ok (by simp [rowOf])) (Sim.LRel.nil _))))) (Sim.rhoOf_none _)
  intro r hr
  simp only [List.mem_cons, List.mem_nil_iff, or_false] at hr
  rcases hr with rfl | rfl | rfl | rfl | rfl
  · exact h1.ok
  · exact h2.ok
  · exact h3.ok
  · exact h4.ok
  · exact h5.ok

set_option maxRecDepth 100000 in
theorem lifted (os : Os) (started : os.Started) (H : Type) (enc : TypeId × Value → H) :
    ReturnsInHanded {} Try.checked os 3 .any (Rows.decpassRunsSpec.pre6 enc Try.prog Try.f3 Rows.decpassRunsRow.domain false) (Rows.decpassRunsSpec.post enc Try.prog Try.f3 false true false false) := by
  refine returnsInHanded_of_change (C := Try.checked) own started (by kernel_rfl) Try.func3
    (ChangeSpec.witness6 (enc := enc) (C := Try.checked) false ⟨#[], #[.agg #[.int .i64 0, .int .i64 0, .slice none 0 0, .slice none 0 0, .int .i64 0, .bool false, .bool false, .bool false, .bool false, .bool false], .slice none 0 0, .slice none 0 0, .slice none 0 0], []⟩ 8 (by kernel_rfl) (by kernel_rfl) (by kernel_rfl) (by kernel_rfl)) ?_
  intro W base args ds gs before hval0 hW hcnd _
  have hval : ∀ (j : Nat) t v, Try.f3.params[j]? = some t → args[j]? = some v → Value.okWide Try.prog W .any base t v := hval0
  have hW' := hW
  obtain ⟨p, q, hA0, hV, rfl, hfz, hnd⟩ := hW
  have hA : DataW.TrodAll enc Try.prog W 0 (fun _ => true) true Try.f3.params.toList args.toList ds p := hA0
  rw [Try.params3] at hA hval
  obtain ⟨v0, vs0, d0, ds0, p0, q0, hargs, rfl, rfl, h0, r0⟩ := trodAll_cons hA
  obtain ⟨v1, vs1, d1, ds1, p1, q1, rfl, rfl, rfl, h1, r1'⟩ := trodAll_cons r0
  obtain ⟨v2, vs2, d2, ds2, p2, q2, rfl, rfl, rfl, h2, r2'⟩ := trodAll_cons r1'
  obtain ⟨v3, vs3, d3, ds3, p3, q3, rfl, rfl, rfl, h3, r3'⟩ := trodAll_cons r2'
  obtain ⟨rfl, rfl, rfl⟩ := trodAll_nil r3'
  obtain rfl : args = #[v0, v1, v2, v3] := by cases args; simp_all
  obtain ⟨rfl, rfl⟩ := trodVars_none hV
  obtain ⟨i, a, len, cap, z, a', len', cap', z', rfl, r1, r2, hx, hfl⟩ := open_block (hval 0 28 v0 rfl rfl) h0
  obtain ⟨a1, len1, cap1, rfl⟩ := okWide_slice Try.underlying22 (hval 1 22 v1 rfl rfl)
  obtain ⟨a2, len2, cap2, rfl⟩ := okWide_slice Try.underlying22 (hval 2 22 v2 rfl rfl)
  obtain ⟨a3, len3, cap3, rfl⟩ := okWide_slice Try.underlying22 (hval 3 22 v3 rfl rfl)
  have lt3 : ∀ x ∈ p3, x.block < W.heap.size := by obtain ⟨m, hm⟩ := h3; exact DataW.trod_lt m _ _ _ hm
  have lt2 : ∀ x ∈ p2, x.block < W.heap.size := by obtain ⟨m, hm⟩ := h2; exact DataW.trod_lt m _ _ _ hm
  obtain ⟨z1, r3⟩ : ∃ zs, IsRow .i64 W a1 len1 cap1 zs := by
    obtain ⟨fuel, hf⟩ := h1
    obtain ⟨x, l, cc, zs, e, r⟩ := open_row1 Try.underlying22 Try.underlying3 (by kernel_rfl) hf
    injection e with e1 e2 e3
    subst e1 e2 e3
    exact ⟨zs, r⟩
  obtain ⟨z2, r4⟩ : ∃ zs, IsRow .i64 W a2 len2 cap2 zs := by
    obtain ⟨fuel, hf⟩ := h2
    obtain ⟨x, l, cc, zs, e, r⟩ := open_row1 Try.underlying22 Try.underlying3 (by kernel_rfl) hf
    injection e with e1 e2 e3
    subst e1 e2 e3
    exact ⟨zs, r⟩
  obtain ⟨z3, r5⟩ : ∃ zs, IsRow .i64 W a3 len3 cap3 zs := by
    obtain ⟨fuel, hf⟩ := h3
    obtain ⟨x, l, cc, zs, e, r⟩ := open_row1 Try.underlying22 Try.underlying3 (by kernel_rfl) hf
    injection e with e1 e2 e3
    subst e1 e2 e3
    exact ⟨zs, r⟩
  have k0 := h0
  have lt1 : ∀ x ∈ p1, x.block < W.heap.size := by obtain ⟨m, hm⟩ := h1; exact DataW.trod_lt m _ _ _ hm
  have lt0 : ∀ x ∈ p0, x.block < W.heap.size := by obtain ⟨m, hm⟩ := k0; exact DataW.trod_lt m _ _ _ hm
  clear hA0 hval0
  refine (walk W r1 r2 r3 r4 r5 hx hfl).mono fun e W' ⟨he, bel⟩ => ?_
  subst he
  exact ⟨_, rfl, _, _, _, [], _, [], hW', trodAll_mk1 (shut_bool Try.underlying4 _), (trodAll_cons_mk (Below.trod laidOut (by kernel_rfl) (of_decide_eq_true (by kernel_rfl)) k0 bel lt0) (trodAll_cons_mk (Below.trod laidOut (by kernel_rfl) (of_decide_eq_true (by kernel_rfl)) h1 bel lt1) (trodAll_cons_mk (Below.trod laidOut (by kernel_rfl) (of_decide_eq_true (by kernel_rfl)) h2 bel lt2) (trodAll_cons_mk (Below.trod laidOut (by kernel_rfl) (of_decide_eq_true (by kernel_rfl)) h3 bel lt3) trodAll_mk0)))), rfl, bel.frame _, fun h => by cases h⟩

set_option maxRecDepth 100000 in
set_option maxHeartbeats 8000000 in
theorem closed : joinedFacts Try.prog 3 Try.f3 Rows.decpassRunsSpec Rows.decpassRunsRow = true := by
  unfold joinedFacts
  rw [once_all.1, once_all.2.1, once_all.2.2]
  repeat' (with_reducible apply and_intro)
  all_goals (as_aux_lemma => kernel_rfl)
set_option maxHeartbeats 8000000 in
theorem over : Rows.decpassRunsRow.holds Try.pinned (OpenSpec.ofChange Rows.decpassRunsSpec) :=
  OpenClaim.holds_of_wide 3 Try.f3 rfl rfl rfl rfl rfl rfl rfl ⟨rfl, rfl, rfl, rfl, rfl⟩ rfl rfl rfl rfl rfl (by as_aux_lemma => kernel_rfl) Try.func3 closed
    (of_decide_eq_true (by as_aux_lemma => kernel_rfl)) (by unfold Func.isWrapper; first | (rw [if_pos (by decide +kernel)]; kernel_rfl) | (rw [if_neg (by decide +kernel)]; exact ⟨rfl, rfl⟩))
    (fun os started H enc _ => lifted os started H enc)

/-- The statement. -/
theorem proved : Rows.DecpassRunsSaid := over
#print axioms proved
end Go.Proofs.Ytjpjohchdfoeaaa.decpassRuns
