/-
  DecpassValues returns true at every input: the values, the missing planes and the error are the reference's.
  Conditions: none beyond the given statement's own.
-/
import Derived.Test.YtjpjohchdfoeaaaRows
import Derived.Test.YtjpjohchdfoeaaaOnce
import Derived.Test.YtjpjohchdfoeaaaFrV2
import Derived.Test.YtjpjohchdfoeaaaValu
import Derived.WalkKit
import Derived.ProofKit
import Derived.OpenShut
import Derived.ShutString
import Derived.ChangeOld
import Derived.Below
import Derived.HandedShaped
namespace Go.Proofs.Ytjpjohchdfoeaaa.decpassValues
open Go.Sim (IsRow rowOf)
open Go.ChangeShapes Go.WideShapes Go.ChangeAt Go.RowKit
open Go.ChangeMaps (open_string shut_string)
set_option linter.unusedVariables false

theorem mixed : Try.prog.follows .mixedOrders = true := by kernel_rfl
theorem own : ownKnob Try.prog.godebug = none := by kernel_rfl
theorem laidOut : laidOutB Try.prog = true := by kernel_rfl

theorem vrel_in {ρ : Sim.PMap} {s s' : Value} {P w hh o : Int} {m : MD} (hs : Sim.VRel ρ s s') (cs : Sim.isCell s = true) : Sim.VRel ρ (inVal s P w hh o m) (inVal s' P w hh o m) := by
  refine Sim.LRel.agg (l := [s, .int .i64 P, .int .i64 w, .int .i64 hh, .int .i64 o, .bool m.byp, .bool m.res, .bool m.rst, .bool m.cz, .bool m.sy]) (l' := [s', .int .i64 P, .int .i64 w, .int .i64 hh, .int .i64 o, .bool m.byp, .bool m.res, .bool m.rst, .bool m.cz, .bool m.sy]) ?_ ?_
  · exact .cons hs (.cons (.int _ _) (.cons (.int _ _) (.cons (.int _ _) (.cons (.int _ _) (.cons (.bool _) (.cons (.bool _) (.cons (.bool _) (.cons (.bool _) (.cons (.bool _) (Sim.LRel.nil _))))))))))
  · intro v hv
    simp only [List.mem_cons, List.mem_nil_iff, or_false] at hv
    rcases hv with rfl | rfl | rfl | rfl | rfl | rfl | rfl | rfl | rfl | rfl <;> first | rfl | assumption
theorem tsum_le {ls : List (List (Int × Int))} (h : ∀ l ∈ ls, l.length * 16 ≤ reachBytes) : tsum ls * 16 ≤ ls.length * reachBytes := by
  induction ls with
  | nil => simp [tsum]
  | cons x ls ih =>
    have e : tsum (x :: ls) = x.length + tsum ls := by simp [tsum]
    have h1 := h x (by simp)
    have h2 := ih (fun l hl => h l (by simp [hl]))
    rw [e, List.length_cons, Nat.add_mul, Nat.add_mul]
    omega
theorem walk {s : Value} {P w hh o : Int} {m : MD} (W : World) (hPr : -9223372036854775808 ≤ P ∧ P < 9223372036854775808)
    (hs : s = .slice none 0 0 ∨ (∃ x, s = .slice (some x) 0 0) ∨ ∃ (x : Addr) (n cap : Nat) (rs : List Sim.Row) (ls : List (List (Int × Int))), s = .slice (some x) n cap ∧ 0 < cap ∧ Sim.OutOk W x n cap rs ∧ (∀ r ∈ rs, r.esz = 2) ∧ ls.length = rs.length ∧
      (∀ i (h1 : i < rs.length) (h2 : i < ls.length), ls[i].length = rs[i].len ∧ rs[i].cs.take (rs[i].len * 2) = encP ls[i]) ∧ (∀ l ∈ ls, l.length * 16 ≤ reachBytes) ∧ n * 24 ≤ reachBytes) :
    Calls Try.prog 4 #[inVal s P w hh o m] W fun e w' => e = .returned (.bool true) ∧ Below W.heap.size W w' := by
  have hR : reachBytes = 140737488351232 := rfl
  rcases hs with rfl | ⟨x, rfl⟩ | ⟨x, n, cap, rs, ls, rfl, hc, ho, h2, hl, hrow, hw, hn⟩
  · exact Sim.calls_of_ret Go.Proofs.Ytjpjohchdfoeaaa.tabOk mixed rfl (ret_values (h := Sim.heapOf []) (psI_none _ rfl) (by simp) (fun _ => by simp [tsum]) hPr) (Sim.allRo_heapOf []) (Sim.rel_heapOf (rs := []) (fun r hr => by cases hr)) (Sim.LRel.cons (vrel_in .nilS rfl) (Sim.LRel.nil _)) (Sim.rhoOf_none [])
  · have hp : PsI [none] (.slice (some ⟨0, 0, none⟩) 0 1) [] [] := ⟨⟨rfl, .inr ⟨0, 0, rfl, .inl rfl⟩⟩, rfl, fun i h1 h2 => by simp at h1, fun i h1 id hid => by simp at h1⟩
    have hno : ∀ id b, Sim.blk? [none] id = some b → False := fun id b hb => by
      unfold Sim.blk? at hb
      cases id with
      | zero => simp at hb
      | succ id => simp at hb
    exact Sim.calls_of_ret (ρ := fun id => if id = 0 then some ⟨0, 0, 0, 1⟩ else none) Go.Proofs.Ytjpjohchdfoeaaa.tabOk mixed rfl (ret_values hp (by simp) (fun _ => by simp [tsum]) hPr) (fun id b hb => (hno id b hb).elim) ⟨fun id b hb => (hno id b hb).elim, fun i j bi bj p q hi => (hno i bi hi).elim⟩ (Sim.LRel.cons (vrel_in (.sliceE (p := ⟨0, 0, 0, 1⟩) rfl) rfl) (Sim.LRel.nil _)) (fun id hid => by simp at hid; exact if_neg (by omega))
  · have hrl := ho.rl
    have hts := tsum_le hw
    rw [hR] at hts hn
    exact Sim.calls_of_ret Go.Proofs.Ytjpjohchdfoeaaa.tabOk mixed rfl (ret_values (psI_out ho h2 hl hrow) (by omega) (fun h178 => by
      have := Nat.mul_le_mul_right 140737488351232 h178
      omega) hPr) (Sim.allRo_heapO rs) (Sim.rel_heapO ho hc) (Sim.LRel.cons (vrel_in (Sim.vrel_out ho hc) rfl) (Sim.LRel.nil _)) (Sim.rhoO_none rs x cap)

set_option maxRecDepth 100000 in
theorem lifted (os : Os) (started : os.Started) (H : Type) (enc : TypeId × Value → H) :
    ReturnsInHanded {} Try.checked os 4 .any (Rows.decpassValuesSpec.pre6 enc Try.prog Try.f4 Rows.decpassValuesRow.domain false) (Rows.decpassValuesSpec.post enc Try.prog Try.f4 false true false false) := by
  refine returnsInHanded_of_change_shaped (C := Try.checked) own started (by kernel_rfl) Try.func4
    (ChangeSpec.witness6 (enc := enc) (C := Try.checked) false ⟨#[], #[.agg #[.slice none 0 0, .int .i64 0, .int .i64 0, .int .i64 0, .int .i64 0, .bool false, .bool false, .bool false, .bool false, .bool false]], []⟩ 8 (by kernel_rfl) (by kernel_rfl) (by kernel_rfl) (by kernel_rfl)) ?_
  intro W base args ds gs before hval0 hW hcnd hwt _ _
  have hval : ∀ (j : Nat) t v, Try.f4.params[j]? = some t → args[j]? = some v → Value.okWide Try.prog W .any base t v := hval0
  have hW' := hW
  obtain ⟨p, q, hA0, hV, rfl, hfz, hnd⟩ := hW
  have hA : DataW.TrodAll enc Try.prog W 0 (fun _ => true) true Try.f4.params.toList args.toList ds p := hA0
  have hwt' : (DataW.weightsEach Try.prog (Try.f4.params.toList ++ Rows.decpassValuesSpec.plain.varTypes Try.prog) (ds ++ gs)).all (· ≤ reachBytes) = true := hwt
  rw [Try.params4] at hA hval hwt'
  obtain ⟨v0, vs0, d0, ds0, p0, q0, hargs, rfl, rfl, h0, r0⟩ := trodAll_cons hA
  obtain ⟨rfl, rfl, rfl⟩ := trodAll_nil r0
  obtain rfl : args = #[v0] := by cases args; simp_all
  obtain ⟨rfl, rfl⟩ := trodVars_none hV
  have hw0 : ∀ k ∈ d0.weights Try.prog 53, k ≤ reachBytes := by
    intro k hk
    have := List.all_eq_true.1 hwt' k (by
      show k ∈ DataW.weightsEach Try.prog (53 :: _) (d0 :: _)
      unfold DataW.weightsEach
      exact List.mem_append_left _ hk)
    simpa using this
  obtain ⟨s, P, w, hh, o, m, rfl, hPr, hs⟩ := open_input (hval 0 53 v0 rfl rfl) h0 hw0
  have k0 := h0
  have lt0 : ∀ x ∈ p0, x.block < W.heap.size := by obtain ⟨m, hm⟩ := k0; exact DataW.trod_lt m _ _ _ hm
  clear hA0 hval0
  refine (walk W hPr hs).mono fun e W' ⟨he, bel⟩ => ?_
  subst he
  exact ⟨_, rfl, _, _, _, [], _, [], hW', trodAll_mk1 (shut_bool Try.underlying4 _), (trodAll_cons_mk (Below.trod laidOut (by kernel_rfl) (of_decide_eq_true (by kernel_rfl)) k0 bel lt0) trodAll_mk0), rfl, bel.frame _, fun h => by cases h⟩

set_option maxRecDepth 100000 in
set_option maxHeartbeats 8000000 in
theorem closed : joinedFacts Try.prog 4 Try.f4 Rows.decpassValuesSpec Rows.decpassValuesRow = true := by
  unfold joinedFacts
  rw [once_all.1, once_all.2.1, once_all.2.2]
  repeat' (with_reducible apply and_intro)
  all_goals (as_aux_lemma => kernel_rfl)
set_option maxHeartbeats 8000000 in
theorem over : Rows.decpassValuesRow.holds Try.pinned (OpenSpec.ofChange Rows.decpassValuesSpec) :=
  OpenClaim.holds_of_wide 4 Try.f4 rfl rfl rfl rfl rfl rfl rfl ⟨rfl, rfl, rfl, rfl, rfl⟩ rfl rfl rfl rfl rfl (by as_aux_lemma => kernel_rfl) Try.func4 closed
    (of_decide_eq_true (by as_aux_lemma => kernel_rfl)) (by unfold Func.isWrapper; first | (rw [if_pos (by decide +kernel)]; kernel_rfl) | (rw [if_neg (by decide +kernel)]; exact ⟨rfl, rfl⟩))
    (fun os started H enc _ => lifted os started H enc)

/-- The statement. -/
theorem proved : Rows.DecpassValuesSaid := over
#print axioms proved
end Go.Proofs.Ytjpjohchdfoeaaa.decpassValues
