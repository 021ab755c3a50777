/-
  DistortCurves returns true at every input: Curve returns the rate-distortion curve of a block, or the error.
  Conditions: none beyond the given statement's own.
-/
import Derived.Test.YtjpjohchdfoeaaaGreatRows
import Derived.Test.YtjpjohchdfoeaaaGreatOnce
import Derived.Test.YtjpjohchdfoeaaaGreatRetCu
import Derived.WalkKit
import Derived.ProofKit
import Derived.OpenShut
import Derived.ShutString
import Derived.ChangeOld
import Derived.Below
namespace Go.Proofs.YtjpjohchdfoeaaaGreat.distortCurves
open Go.Sim (IsRow rowOf)
open Go.ChangeShapes Go.WideShapes Go.ChangeAt Go.RowKit
set_option linter.unusedVariables false
set_option linter.unusedSimpArgs false

theorem mixed : Tryz.prog.follows .mixedOrders = true := by kernel_rfl
theorem own : ownKnob Tryz.prog.godebug = none := by kernel_rfl
theorem laidOut : laidOutB Tryz.prog = true := by kernel_rfl

theorem walk (w : World) {b0 : Option Addr} {l0 c0 : Nat} {z0 : List Int} (r0 : IsRow .i64 w b0 l0 c0 z0) (x1 : Int) (w1 : (Lit.int .i64 x1).wf = true) {b1 : Option Addr} {l1 c1 : Nat} {z1 : List Int} (r1 : IsRow .i64 w b1 l1 c1 z1) {b2 : Option Addr} {l2 c2 : Nat} {z2 : List Int} (r2 : IsRow .u8 w b2 l2 c2 z2) (x4 : Int) (w4 : (Lit.int .i64 x4).wf = true) (x5 : Int) (w5 : (Lit.int .i64 x5).wf = true) (x6 : Int) (w6 : (Lit.int .i64 x6).wf = true) (x7 : Bool) (x8 : Bool) (x9 : Bool) (x10 : Bool) (x11 : Bool) (x12 : Int) (w12 : (Lit.int .i64 x12).wf = true) (x13 : Int) (w13 : (Lit.int .i64 x13).wf = true) (x14 : Int) (w14 : (Lit.int .i64 x14).wf = true) (x15 : Int) (w15 : (Lit.int .i64 x15).wf = true) :
    Calls Tryz.prog 6 #[(.slice b0 l0 c0), .agg #[(.int .i64 x1), (.slice b1 l1 c1), (.slice b2 l2 c2)], .agg #[(.int .i64 x4), (.int .i64 x5), (.int .i64 x6), (.bool x7), (.bool x8), (.bool x9), (.bool x10), (.bool x11), (.int .i64 x12), (.int .i64 x13), (.int .i64 x14), (.int .i64 x15)]] w fun e w' => e = .returned (.bool true) ∧ Below w.heap.size w w' :=
  Sim.calls_of_ret (h := Sim.heapOf [rowOf .i64 b0 l0 c0 z0, rowOf .i64 b1 l1 c1 z1, rowOf .u8 b2 l2 c2 z2]) Go.Proofs.YtjpjohchdfoeaaaGreat.tabOk mixed rfl (ret_curves (Sim.Rk.row r0 (rs := [rowOf .i64 b0 l0 c0 z0, rowOf .i64 b1 l1 c1 z1, rowOf .u8 b2 l2 c2 z2]) (id := 0) rfl) (Sim.Rk.row r1 (rs := [rowOf .i64 b0 l0 c0 z0, rowOf .i64 b1 l1 c1 z1, rowOf .u8 b2 l2 c2 z2]) (id := 1) rfl) (Sim.Rk.row r2 (rs := [rowOf .i64 b0 l0 c0 z0, rowOf .i64 b1 l1 c1 z1, rowOf .u8 b2 l2 c2 z2]) (id := 2) rfl)) (Sim.allRo_heapOf _) (Sim.rel_heapOf (by
    intro r hr
    simp only [List.mem_cons, List.mem_nil_iff, or_false] at hr
    rcases hr with rfl | rfl | rfl
    · exact r0.ok
    · exact r1.ok
    · exact r2.ok)) (Sim.LRel.cons (Sim.vrel_row (r := rowOf .i64 b0 l0 c0 z0) (rs := [rowOf .i64 b0 l0 c0 z0, rowOf .i64 b1 l1 c1 z1, rowOf .u8 b2 l2 c2 z2]) rfl r0.ok (by simp [rowOf])) (Sim.LRel.cons (Sim.LRel.agg (l := [(.int .i64 x1), ((rowOf .i64 b1 l1 c1 z1).val 1), ((rowOf .u8 b2 l2 c2 z2).val 2)]) (l' := [(.int .i64 x1), (.slice b1 l1 c1), (.slice b2 l2 c2)]) (.cons (.int _ _) (.cons (Sim.vrel_row (r := rowOf .i64 b1 l1 c1 z1) (rs := [rowOf .i64 b0 l0 c0 z0, rowOf .i64 b1 l1 c1 z1, rowOf .u8 b2 l2 c2 z2]) rfl r1.ok (by simp [rowOf])) (.cons (Sim.vrel_row (r := rowOf .u8 b2 l2 c2 z2) (rs := [rowOf .i64 b0 l0 c0 z0, rowOf .i64 b1 l1 c1 z1, rowOf .u8 b2 l2 c2 z2]) rfl r2.ok (by simp [rowOf])) (Sim.LRel.nil _)))) (Sim.all_cons rfl (Sim.all_cons Sim.cellR (Sim.all_cons Sim.cellR (Sim.all_nil))))) (Sim.LRel.cons (Sim.LRel.agg (l := [(.int .i64 x4), (.int .i64 x5), (.int .i64 x6), (.bool x7), (.bool x8), (.bool x9), (.bool x10), (.bool x11), (.int .i64 x12), (.int .i64 x13), (.int .i64 x14), (.int .i64 x15)]) (l' := [(.int .i64 x4), (.int .i64 x5), (.int .i64 x6), (.bool x7), (.bool x8), (.bool x9), (.bool x10), (.bool x11), (.int .i64 x12), (.int .i64 x13), (.int .i64 x14), (.int .i64 x15)]) (.cons (.int _ _) (.cons (.int _ _) (.cons (.int _ _) (.cons (.bool _) (.cons (.bool _) (.cons (.bool _) (.cons (.bool _) (.cons (.bool _) (.cons (.int _ _) (.cons (.int _ _) (.cons (.int _ _) (.cons (.int _ _) (Sim.LRel.nil _))))))))))))) (Sim.all_cons rfl (Sim.all_cons rfl (Sim.all_cons rfl (Sim.all_cons rfl (Sim.all_cons rfl (Sim.all_cons rfl (Sim.all_cons rfl (Sim.all_cons rfl (Sim.all_cons rfl (Sim.all_cons rfl (Sim.all_cons rfl (Sim.all_cons rfl (Sim.all_nil)))))))))))))) (Sim.LRel.nil _)))) (Sim.rhoOf_none _)

set_option maxRecDepth 100000 in
theorem lifted (os : Os) (started : os.Started) (H : Type) (enc : TypeId × Value → H) :
    ReturnsInHanded {} Tryz.checked os 6 .any (Rows.distortCurvesSpec.pre6 enc Tryz.prog Tryz.f6 Rows.distortCurvesRow.domain false) (Rows.distortCurvesSpec.post enc Tryz.prog Tryz.f6 false true false false) := by
  refine returnsInHanded_of_change (C := Tryz.checked) own started (by kernel_rfl) Tryz.func6
    (ChangeSpec.witness6 (enc := enc) (C := Tryz.checked) false ⟨#[], #[.slice none 0 0, .agg #[.int .i64 0, .slice none 0 0, .slice none 0 0], .agg #[.int .i64 0, .int .i64 0, .int .i64 0, .bool false, .bool false, .bool false, .bool false, .bool false, .int .i64 0, .int .i64 0, .int .i64 0, .int .i64 0]], []⟩ 8 (by kernel_rfl) (by kernel_rfl) (by kernel_rfl) (by kernel_rfl)) ?_
  intro W base args ds gs before hval0 hW hcnd _
  have hval : ∀ (j : Nat) t v, Tryz.f6.params[j]? = some t → args[j]? = some v → Value.okWide Tryz.prog W .any base t v := hval0
  have hW' := hW
  obtain ⟨p, q, hA0, hV, rfl, hfz, hnd⟩ := hW
  have hA : DataW.TrodAll enc Tryz.prog W 0 (fun _ => true) true Tryz.f6.params.toList args.toList ds p := hA0
  rw [Tryz.params6] at hA hval
  obtain ⟨v0, vs0, d0, ds0, p0, q0, hargs, rfl, rfl, h0, t0⟩ := trodAll_cons hA
  obtain ⟨v1, vs1, d1, ds1, p1, q1, rfl, rfl, rfl, h1, t1⟩ := trodAll_cons t0
  obtain ⟨v2, vs2, d2, ds2, p2, q2, rfl, rfl, rfl, h2, t2⟩ := trodAll_cons t1
  obtain ⟨rfl, rfl, rfl⟩ := trodAll_nil t2
  obtain rfl : args = #[v0, v1, v2] := by cases args; simp_all
  obtain ⟨rfl, rfl⟩ := trodVars_none hV
  have k0 := h0
  have lt0 : ∀ x ∈ p0, x.block < W.heap.size := by obtain ⟨m, hm⟩ := k0; exact DataW.trod_lt m _ _ _ hm
  have k1 := h1
  have lt1 : ∀ x ∈ p1, x.block < W.heap.size := by obtain ⟨m, hm⟩ := k1; exact DataW.trod_lt m _ _ _ hm
  have k2 := h2
  have lt2 : ∀ x ∈ p2, x.block < W.heap.size := by obtain ⟨m, hm⟩ := k2; exact DataW.trod_lt m _ _ _ hm
  obtain ⟨f0, g0⟩ := Sim.open_flat (l := [.sl .i64]) 6 (by kernel_rfl) (hval 0 22 v0 rfl rfl) h0
  obtain ⟨sa0, sl0, sc0, rfl⟩ := okWide_slice Tryz.underlying22 (hval 0 22 v0 rfl rfl)
  obtain ⟨e0_0, _⟩ := (show Sim.Fits W [.sl .i64] [.slice sa0 sl0 sc0] from f0)
  obtain ⟨b0, l0, c0, z0, e0, r0⟩ := e0_0
  obtain ⟨rfl, rfl, rfl⟩ : sa0 = b0 ∧ sl0 = l0 ∧ sc0 = c0 := by simpa using e0
  obtain ⟨f1, g1⟩ := Sim.open_flat (l := [.int .i64, .sl .i64, .sl .u8]) 6 (by kernel_rfl) (hval 1 25 v1 rfl rfl) h1
  obtain ⟨⟨cs1⟩, rfl⟩ := g1 (by kernel_rfl)
  have f1 : Sim.Fits W [.int .i64, .sl .i64, .sl .u8] cs1 := f1
  obtain ⟨u1_0, m1_0, rfl, e1_0, n1_0⟩ := Sim.Fits.cons f1
  obtain ⟨u1_1, m1_1, rfl, e1_1, n1_1⟩ := Sim.Fits.cons n1_0
  obtain ⟨u1_2, m1_2, rfl, e1_2, n1_2⟩ := Sim.Fits.cons n1_1
  obtain rfl := Sim.Fits.nil n1_2
  obtain ⟨x1, rfl, w1⟩ := e1_0
  obtain ⟨b1, l1, c1, z1, rfl, r1⟩ := e1_1
  obtain ⟨b2, l2, c2, z2, rfl, r2⟩ := e1_2
  obtain ⟨f2, g2⟩ := Sim.open_flat (l := [.int .i64, .int .i64, .int .i64, .bool, .bool, .bool, .bool, .bool, .int .i64, .int .i64, .int .i64, .int .i64]) 6 (by kernel_rfl) (hval 2 46 v2 rfl rfl) h2
  obtain ⟨⟨cs2⟩, rfl⟩ := g2 (by kernel_rfl)
  have f2 : Sim.Fits W [.int .i64, .int .i64, .int .i64, .bool, .bool, .bool, .bool, .bool, .int .i64, .int .i64, .int .i64, .int .i64] cs2 := f2
  obtain ⟨u2_0, m2_0, rfl, e2_0, n2_0⟩ := Sim.Fits.cons f2
  obtain ⟨u2_1, m2_1, rfl, e2_1, n2_1⟩ := Sim.Fits.cons n2_0
  obtain ⟨u2_2, m2_2, rfl, e2_2, n2_2⟩ := Sim.Fits.cons n2_1
  obtain ⟨u2_3, m2_3, rfl, e2_3, n2_3⟩ := Sim.Fits.cons n2_2
  obtain ⟨u2_4, m2_4, rfl, e2_4, n2_4⟩ := Sim.Fits.cons n2_3
  obtain ⟨u2_5, m2_5, rfl, e2_5, n2_5⟩ := Sim.Fits.cons n2_4
  obtain ⟨u2_6, m2_6, rfl, e2_6, n2_6⟩ := Sim.Fits.cons n2_5
  obtain ⟨u2_7, m2_7, rfl, e2_7, n2_7⟩ := Sim.Fits.cons n2_6
  obtain ⟨u2_8, m2_8, rfl, e2_8, n2_8⟩ := Sim.Fits.cons n2_7
  obtain ⟨u2_9, m2_9, rfl, e2_9, n2_9⟩ := Sim.Fits.cons n2_8
  obtain ⟨u2_10, m2_10, rfl, e2_10, n2_10⟩ := Sim.Fits.cons n2_9
  obtain ⟨u2_11, m2_11, rfl, e2_11, n2_11⟩ := Sim.Fits.cons n2_10
  obtain rfl := Sim.Fits.nil n2_11
  obtain ⟨x4, rfl, w4⟩ := e2_0
  obtain ⟨x5, rfl, w5⟩ := e2_1
  obtain ⟨x6, rfl, w6⟩ := e2_2
  obtain ⟨x7, rfl⟩ := e2_3
  obtain ⟨x8, rfl⟩ := e2_4
  obtain ⟨x9, rfl⟩ := e2_5
  obtain ⟨x10, rfl⟩ := e2_6
  obtain ⟨x11, rfl⟩ := e2_7
  obtain ⟨x12, rfl, w12⟩ := e2_8
  obtain ⟨x13, rfl, w13⟩ := e2_9
  obtain ⟨x14, rfl, w14⟩ := e2_10
  obtain ⟨x15, rfl, w15⟩ := e2_11
  clear hA0 hval0
  refine (walk W r0 x1 w1 r1 r2 x4 w4 x5 w5 x6 w6 x7 x8 x9 x10 x11 x12 w12 x13 w13 x14 w14 x15 w15).mono fun e W' ⟨he, bel⟩ => ?_
  subst he
  exact ⟨_, rfl, _, _, _, [], _, [], hW', trodAll_mk1 (shut_bool Tryz.underlying4 _), (trodAll_cons_mk (Below.trod laidOut (by kernel_rfl) (of_decide_eq_true (by kernel_rfl)) k0 bel lt0) (trodAll_cons_mk (Below.trod laidOut (by kernel_rfl) (of_decide_eq_true (by kernel_rfl)) k1 bel lt1) (trodAll_cons_mk (Below.trod laidOut (by kernel_rfl) (of_decide_eq_true (by kernel_rfl)) k2 bel lt2) (trodAll_mk0)))), rfl, bel.frame _, fun h => by cases h⟩

set_option maxRecDepth 100000 in
set_option maxHeartbeats 8000000 in
theorem closed : joinedFacts Tryz.prog 6 Tryz.f6 Rows.distortCurvesSpec Rows.distortCurvesRow = true := by
  unfold joinedFacts
  rw [once_all.1, once_all.2.1, once_all.2.2]
  repeat' (with_reducible apply and_intro)
  all_goals (as_aux_lemma => kernel_rfl)
set_option maxHeartbeats 8000000 in
theorem over : Rows.distortCurvesRow.holds Tryz.pinned (OpenSpec.ofChange Rows.distortCurvesSpec) :=
  OpenClaim.holds_of_wide 6 Tryz.f6 rfl rfl rfl rfl rfl rfl rfl ⟨rfl, rfl, rfl, rfl, rfl⟩ rfl rfl rfl rfl rfl (by as_aux_lemma => kernel_rfl) Tryz.func6 closed
    (of_decide_eq_true (by as_aux_lemma => kernel_rfl)) (by unfold Func.isWrapper; first | (rw [if_pos (by decide +kernel)]; kernel_rfl) | (rw [if_neg (by decide +kernel)]; exact ⟨rfl, rfl⟩))
    (fun os started H enc _ => lifted os started H enc)

/-- The statement. -/
theorem proved : Rows.DistortCurvesSaid := over
#print axioms proved
end Go.Proofs.YtjpjohchdfoeaaaGreat.distortCurves
