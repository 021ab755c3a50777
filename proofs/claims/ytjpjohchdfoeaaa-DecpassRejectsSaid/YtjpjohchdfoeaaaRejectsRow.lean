/-
  DecpassRejects returns true at every input: symbols of which one is changed, the last removed or one appended, are refused.
  Conditions: none beyond the given statement's own.
-/
import Derived.Test.YtjpjohchdfoeaaaRows
import Derived.Test.YtjpjohchdfoeaaaOnce
import Derived.Test.YtjpjohchdfoeaaaFr
import Derived.Test.YtjpjohchdfoeaaaRej2
import Derived.WalkKit
import Derived.ProofKit
import Derived.OpenShut
import Derived.ShutString
import Derived.ChangeOld
import Derived.Below
namespace Go.Proofs.Ytjpjohchdfoeaaa.decpassRejects
open Go.Sim (IsRow rowOf)
open Go.ChangeShapes Go.WideShapes Go.ChangeAt Go.RowKit
open Go.ChangeMaps (open_string shut_string)
set_option linter.unusedVariables false

theorem mixed : Try.prog.follows .mixedOrders = true := by kernel_rfl
theorem own : ownKnob Try.prog.godebug = none := by kernel_rfl
theorem laidOut : laidOutB Try.prog = true := by kernel_rfl


theorem row_len {k : IntKind} {w : World} {a : Option Addr} {len cap : Nat} {z : List Int} (h : IsRow k w a len cap z) : (z.take len).length < 9223372036854775808 := by
  have hm : maxLen = 9223372036854775807 := by decide
  rcases h with ⟨_, h2, _, _⟩ | ⟨_, _, h2, h3, h4, _⟩
  · rw [List.length_take]; omega
  · rw [List.length_take]; omega
theorem walk {i : Inp} {a : Option Addr} {len cap : Nat} {z : List Int} {a' : Option Addr} {len' cap' : Nat} {z' : List Int} (w : World) (kk jj how : Int) (h1 : IsRow .i64 w a len cap z) (h2 : IsRow .u8 w a' len' cap' z') (hx : i.xs = z.take len) (hf : i.fl = len') :
    Calls Try.prog 8 #[i.val (.slice a len cap) (.slice a' len' cap'), .int .i64 kk, .int .i64 jj, .int .i64 how] w fun e w' => e = .returned (.bool true) ∧ Below w.heap.size w w' :=
  Sim.calls_of_ret Go.Proofs.Ytjpjohchdfoeaaa.tabOk mixed rfl (ret_rejects (by rw [hx]; exact ints_row h1 (rs := rowsOf a len cap z a' len' cap' z') (id := 0) rfl) (by rw [hx]; exact row_len h1) (below_val h2) isCell_val) (Sim.allRo_heapOf _) (Sim.rel_heapOf (rowsOk h1 h2)) (Sim.LRel.cons (vrel_rows h1 h2) (Sim.LRel.cons (Sim.VRel.int .i64 kk) (Sim.LRel.cons (Sim.VRel.int .i64 jj) (Sim.LRel.cons (Sim.VRel.int .i64 how) (Sim.LRel.nil _))))) (Sim.rhoOf_none _)

set_option maxRecDepth 100000 in
theorem lifted (os : Os) (started : os.Started) (H : Type) (enc : TypeId × Value → H) :
    ReturnsInHanded {} Try.checked os 8 .any (Rows.decpassRejectsSpec.pre6 enc Try.prog Try.f8 Rows.decpassRejectsRow.domain false) (Rows.decpassRejectsSpec.post enc Try.prog Try.f8 false true false false) := by
  refine returnsInHanded_of_change (C := Try.checked) own started (by kernel_rfl) Try.func8
    (ChangeSpec.witness6 (enc := enc) (C := Try.checked) false ⟨#[], #[.agg #[.int .i64 0, .int .i64 0, .slice none 0 0, .slice none 0 0, .int .i64 0, .bool false, .bool false, .bool false, .bool false, .bool false], .int .i64 0, .int .i64 0, .int .i64 0], []⟩ 8 (by kernel_rfl) (by kernel_rfl) (by kernel_rfl) (by kernel_rfl)) ?_
  intro W base args ds gs before hval0 hW hcnd _
  have hval : ∀ (j : Nat) t v, Try.f8.params[j]? = some t → args[j]? = some v → Value.okWide Try.prog W .any base t v := hval0
  have hW' := hW
  obtain ⟨p, q, hA0, hV, rfl, hfz, hnd⟩ := hW
  have hA : DataW.TrodAll enc Try.prog W 0 (fun _ => true) true Try.f8.params.toList args.toList ds p := hA0
  rw [Try.params8] at hA hval
  obtain ⟨v0, vs0, d0, ds0, p0, q0, hargs, rfl, rfl, h0, r0⟩ := trodAll_cons hA
  obtain ⟨v1, vs1, d1, ds1, p1, q1, rfl, rfl, rfl, h1, r1'⟩ := trodAll_cons r0
  obtain ⟨v2, vs2, d2, ds2, p2, q2, rfl, rfl, rfl, h2, r2'⟩ := trodAll_cons r1'
  obtain ⟨v3, vs3, d3, ds3, p3, q3, rfl, rfl, rfl, h3, r3'⟩ := trodAll_cons r2'
  obtain ⟨rfl, rfl, rfl⟩ := trodAll_nil r3'
  obtain rfl : args = #[v0, v1, v2, v3] := by cases args; simp_all
  obtain ⟨rfl, rfl⟩ := trodVars_none hV
  obtain ⟨i, a, len, cap, z, a', len', cap', z', rfl, r1, r2, hx, hfl⟩ := open_block (hval 0 28 v0 rfl rfl) h0
  obtain ⟨kk, rfl⟩ := okWide_int Try.underlying3 (hval 1 3 v1 rfl rfl)
  obtain ⟨jj, rfl⟩ := okWide_int Try.underlying3 (hval 2 3 v2 rfl rfl)
  obtain ⟨how, rfl⟩ := okWide_int Try.underlying3 (hval 3 3 v3 rfl rfl)
  have k0 := h0
  have lt3 : ∀ x ∈ p3, x.block < W.heap.size := by obtain ⟨m, hm⟩ := h3; exact DataW.trod_lt m _ _ _ hm
  have lt2 : ∀ x ∈ p2, x.block < W.heap.size := by obtain ⟨m, hm⟩ := h2; exact DataW.trod_lt m _ _ _ hm
  have lt1 : ∀ x ∈ p1, x.block < W.heap.size := by obtain ⟨m, hm⟩ := h1; exact DataW.trod_lt m _ _ _ hm
  have lt0 : ∀ x ∈ p0, x.block < W.heap.size := by obtain ⟨m, hm⟩ := k0; exact DataW.trod_lt m _ _ _ hm
  clear hA0 hval0
  refine (walk W kk jj how r1 r2 hx hfl).mono fun e W' ⟨he, bel⟩ => ?_
  subst he
  exact ⟨_, rfl, _, _, _, [], _, [], hW', trodAll_mk1 (shut_bool Try.underlying4 _), (trodAll_cons_mk (Below.trod laidOut (by kernel_rfl) (of_decide_eq_true (by kernel_rfl)) k0 bel lt0) (trodAll_cons_mk (Below.trod laidOut (by kernel_rfl) (of_decide_eq_true (by kernel_rfl)) h1 bel lt1) (trodAll_cons_mk (Below.trod laidOut (by kernel_rfl) (of_decide_eq_true (by kernel_rfl)) h2 bel lt2) (trodAll_cons_mk (Below.trod laidOut (by kernel_rfl) (of_decide_eq_true (by kernel_rfl)) h3 bel lt3) trodAll_mk0)))), rfl, bel.frame _, fun h => by cases h⟩

set_option maxRecDepth 100000 in
set_option maxHeartbeats 8000000 in
theorem closed : joinedFacts Try.prog 8 Try.f8 Rows.decpassRejectsSpec Rows.decpassRejectsRow = true := by
  unfold joinedFacts
  rw [once_all.1, once_all.2.1, once_all.2.2]
  repeat' (with_reducible apply and_intro)
  all_goals (as_aux_lemma => kernel_rfl)
set_option maxHeartbeats 8000000 in
theorem over : Rows.decpassRejectsRow.holds Try.pinned (OpenSpec.ofChange Rows.decpassRejectsSpec) :=
  OpenClaim.holds_of_wide 8 Try.f8 rfl rfl rfl rfl rfl rfl rfl ⟨rfl, rfl, rfl, rfl, rfl⟩ rfl rfl rfl rfl rfl (by as_aux_lemma => kernel_rfl) Try.func8 closed
    (of_decide_eq_true (by as_aux_lemma => kernel_rfl)) (by unfold Func.isWrapper; first | (rw [if_pos (by decide +kernel)]; kernel_rfl) | (rw [if_neg (by decide +kernel)]; exact ⟨rfl, rfl⟩))
    (fun os started H enc _ => lifted os started H enc)

/-- The statement. -/
theorem proved : Rows.DecpassRejectsSaid := over
#print axioms proved
end Go.Proofs.Ytjpjohchdfoeaaa.decpassRejects
