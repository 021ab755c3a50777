/-
  BlockdecSounds returns true at every input: Sound returns what the definition returns.
  Conditions: none beyond the given statement's own.
-/
import Derived.Test.YtjpjohchdfoeaaaGreatRows
import Derived.Test.YtjpjohchdfoeaaaGreatOnce
import Derived.Test.YtjpjohchdfoeaaaGreatRetSo
import Derived.WalkKit
import Derived.ProofKit
import Derived.OpenShut
import Derived.ShutString
import Derived.ChangeOld
import Derived.Below
namespace Go.Proofs.YtjpjohchdfoeaaaGreat.blockdecSounds
open Go.Sim (IsRow rowOf)
open Go.ChangeShapes Go.WideShapes Go.ChangeAt Go.RowKit
set_option linter.unusedVariables false
set_option linter.unusedSimpArgs false

theorem mixed : Tryz.prog.follows .mixedOrders = true := by kernel_rfl
theorem own : ownKnob Tryz.prog.godebug = none := by kernel_rfl
theorem laidOut : laidOutB Tryz.prog = true := by kernel_rfl

theorem walk (w : World) (x0 : Int) (w0 : (Lit.int .i64 x0).wf = true) {b0 : Option Addr} {l0 c0 : Nat} {z0 : List Int} (r0 : IsRow .i64 w b0 l0 c0 z0) {b1 : Option Addr} {l1 c1 : Nat} {z1 : List Int} (r1 : IsRow .u8 w b1 l1 c1 z1) (x3 : Int) (w3 : (Lit.int .i64 x3).wf = true) (x4 : Int) (w4 : (Lit.int .i64 x4).wf = true) (x5 : Int) (w5 : (Lit.int .i64 x5).wf = true) (x6 : Int) (w6 : (Lit.int .i64 x6).wf = true) (x7 : Bool) (x8 : Bool) (x9 : Bool) (x10 : Bool) (x11 : Bool) :
    Calls Tryz.prog 4 #[.agg #[(.int .i64 x0), (.slice b0 l0 c0), (.slice b1 l1 c1)], (.int .i64 x3), .agg #[(.int .i64 x4), (.int .i64 x5), (.int .i64 x6), (.bool x7), (.bool x8), (.bool x9), (.bool x10), (.bool x11)]] w fun e w' => e = .returned (.bool true) ∧ Below w.heap.size w w' :=
  Sim.calls_of_ret (h := Sim.heapOf [rowOf .i64 b0 l0 c0 z0, rowOf .u8 b1 l1 c1 z1]) Go.Proofs.YtjpjohchdfoeaaaGreat.tabOk mixed rfl (ret_sounds (Sim.Rk.row r0 (rs := [rowOf .i64 b0 l0 c0 z0, rowOf .u8 b1 l1 c1 z1]) (id := 0) rfl) (Sim.Rk.row r1 (rs := [rowOf .i64 b0 l0 c0 z0, rowOf .u8 b1 l1 c1 z1]) (id := 1) rfl)) (Sim.allRo_heapOf _) (Sim.rel_heapOf (by
    intro r hr
    simp only [List.mem_cons, List.mem_nil_iff, or_false] at hr
    rcases hr with rfl | rfl
    · exact r0.ok
    · exact r1.ok)) (Sim.LRel.cons (Sim.LRel.agg (l := [(.int .i64 x0), ((rowOf .i64 b0 l0 c0 z0).val 0), ((rowOf .u8 b1 l1 c1 z1).val 1)]) (l' := [(.int .i64 x0), (.slice b0 l0 c0), (.slice b1 l1 c1)]) (.cons (.int _ _) (.cons (Sim.vrel_row (r := rowOf .i64 b0 l0 c0 z0) (rs := [rowOf .i64 b0 l0 c0 z0, rowOf .u8 b1 l1 c1 z1]) rfl r0.ok (by simp [rowOf])) (.cons (Sim.vrel_row (r := rowOf .u8 b1 l1 c1 z1) (rs := [rowOf .i64 b0 l0 c0 z0, rowOf .u8 b1 l1 c1 z1]) rfl r1.ok (by simp [rowOf])) (Sim.LRel.nil _)))) (Sim.all_cons rfl (Sim.all_cons Sim.cellR (Sim.all_cons Sim.cellR (Sim.all_nil))))) (Sim.LRel.cons (.int _ _) (Sim.LRel.cons (Sim.LRel.agg (l := [(.int .i64 x4), (.int .i64 x5), (.int .i64 x6), (.bool x7), (.bool x8), (.bool x9), (.bool x10), (.bool x11)]) (l' := [(.int .i64 x4), (.int .i64 x5), (.int .i64 x6), (.bool x7), (.bool x8), (.bool x9), (.bool x10), (.bool x11)]) (.cons (.int _ _) (.cons (.int _ _) (.cons (.int _ _) (.cons (.bool _) (.cons (.bool _) (.cons (.bool _) (.cons (.bool _) (.cons (.bool _) (Sim.LRel.nil _))))))))) (Sim.all_cons rfl (Sim.all_cons rfl (Sim.all_cons rfl (Sim.all_cons rfl (Sim.all_cons rfl (Sim.all_cons rfl (Sim.all_cons rfl (Sim.all_cons rfl (Sim.all_nil)))))))))) (Sim.LRel.nil _)))) (Sim.rhoOf_none _)

set_option maxRecDepth 100000 in
theorem lifted (os : Os) (started : os.Started) (H : Type) (enc : TypeId × Value → H) :
    ReturnsInHanded {} Tryz.checked os 4 .any (Rows.blockdecSoundsSpec.pre6 enc Tryz.prog Tryz.f4 Rows.blockdecSoundsRow.domain false) (Rows.blockdecSoundsSpec.post enc Tryz.prog Tryz.f4 false true false false) := by
  refine returnsInHanded_of_change (C := Tryz.checked) own started (by kernel_rfl) Tryz.func4
    (ChangeSpec.witness6 (enc := enc) (C := Tryz.checked) false ⟨#[], #[.agg #[.int .i64 0, .slice none 0 0, .slice none 0 0], .int .i64 0, .agg #[.int .i64 0, .int .i64 0, .int .i64 0, .bool false, .bool false, .bool false, .bool false, .bool false]], []⟩ 8 (by kernel_rfl) (by kernel_rfl) (by kernel_rfl) (by kernel_rfl)) ?_
  intro W base args ds gs before hval0 hW hcnd _
  have hval : ∀ (j : Nat) t v, Tryz.f4.params[j]? = some t → args[j]? = some v → Value.okWide Tryz.prog W .any base t v := hval0
  have hW' := hW
  obtain ⟨p, q, hA0, hV, rfl, hfz, hnd⟩ := hW
  have hA : DataW.TrodAll enc Tryz.prog W 0 (fun _ => true) true Tryz.f4.params.toList args.toList ds p := hA0
  rw [Tryz.params4] at hA hval
  obtain ⟨v0, vs0, d0, ds0, p0, q0, hargs, rfl, rfl, h0, t0⟩ := trodAll_cons hA
  obtain ⟨v1, vs1, d1, ds1, p1, q1, rfl, rfl, rfl, h1, t1⟩ := trodAll_cons t0
  obtain ⟨v2, vs2, d2, ds2, p2, q2, rfl, rfl, rfl, h2, t2⟩ := trodAll_cons t1
  obtain ⟨rfl, rfl, rfl⟩ := trodAll_nil t2
  obtain rfl : args = #[v0, v1, v2] := by cases args; simp_all
  obtain ⟨rfl, rfl⟩ := trodVars_none hV
  have k0 := h0
  have lt0 : ∀ x ∈ p0, x.block < W.heap.size := by obtain ⟨m, hm⟩ := k0; exact DataW.trod_lt m _ _ _ hm
  have k1 := h1
  have lt1 : ∀ x ∈ p1, x.block < W.heap.size := by obtain ⟨m, hm⟩ := k1; exact DataW.trod_lt m _ _ _ hm
  have k2 := h2
  have lt2 : ∀ x ∈ p2, x.block < W.heap.size := by obtain ⟨m, hm⟩ := k2; exact DataW.trod_lt m _ _ _ hm
  obtain ⟨f0, g0⟩ := Sim.open_flat (l := [.int .i64, .sl .i64, .sl .u8]) 6 (by kernel_rfl) (hval 0 25 v0 rfl rfl) h0
  obtain ⟨⟨cs0⟩, rfl⟩ := g0 (by kernel_rfl)
  have f0 : Sim.Fits W [.int .i64, .sl .i64, .sl .u8] cs0 := f0
  obtain ⟨u0_0, m0_0, rfl, e0_0, n0_0⟩ := Sim.Fits.cons f0
  obtain ⟨u0_1, m0_1, rfl, e0_1, n0_1⟩ := Sim.Fits.cons n0_0
  obtain ⟨u0_2, m0_2, rfl, e0_2, n0_2⟩ := Sim.Fits.cons n0_1
  obtain rfl := Sim.Fits.nil n0_2
  obtain ⟨x0, rfl, w0⟩ := e0_0
  obtain ⟨b0, l0, c0, z0, rfl, r0⟩ := e0_1
  obtain ⟨b1, l1, c1, z1, rfl, r1⟩ := e0_2
  obtain ⟨f1, g1⟩ := Sim.open_flat (l := [.int .i64]) 6 (by kernel_rfl) (hval 1 3 v1 rfl rfl) h1
  clear f1 g1
  obtain ⟨x3, rfl, rfl, rfl, w3⟩ := open_int Tryz.underlying3 (hval 1 3 v1 rfl rfl) h1
  obtain ⟨f2, g2⟩ := Sim.open_flat (l := [.int .i64, .int .i64, .int .i64, .bool, .bool, .bool, .bool, .bool]) 6 (by kernel_rfl) (hval 2 30 v2 rfl rfl) h2
  obtain ⟨⟨cs2⟩, rfl⟩ := g2 (by kernel_rfl)
  have f2 : Sim.Fits W [.int .i64, .int .i64, .int .i64, .bool, .bool, .bool, .bool, .bool] cs2 := f2
  obtain ⟨u2_0, m2_0, rfl, e2_0, n2_0⟩ := Sim.Fits.cons f2
  obtain ⟨u2_1, m2_1, rfl, e2_1, n2_1⟩ := Sim.Fits.cons n2_0
  obtain ⟨u2_2, m2_2, rfl, e2_2, n2_2⟩ := Sim.Fits.cons n2_1
  obtain ⟨u2_3, m2_3, rfl, e2_3, n2_3⟩ := Sim.Fits.cons n2_2
  obtain ⟨u2_4, m2_4, rfl, e2_4, n2_4⟩ := Sim.Fits.cons n2_3
  obtain ⟨u2_5, m2_5, rfl, e2_5, n2_5⟩ := Sim.Fits.cons n2_4
  obtain ⟨u2_6, m2_6, rfl, e2_6, n2_6⟩ := Sim.Fits.cons n2_5
  obtain ⟨u2_7, m2_7, rfl, e2_7, n2_7⟩ := Sim.Fits.cons n2_6
  obtain rfl := Sim.Fits.nil n2_7
  obtain ⟨x4, rfl, w4⟩ := e2_0
  obtain ⟨x5, rfl, w5⟩ := e2_1
  obtain ⟨x6, rfl, w6⟩ := e2_2
  obtain ⟨x7, rfl⟩ := e2_3
  obtain ⟨x8, rfl⟩ := e2_4
  obtain ⟨x9, rfl⟩ := e2_5
  obtain ⟨x10, rfl⟩ := e2_6
  obtain ⟨x11, rfl⟩ := e2_7
  clear hA0 hval0
  refine (walk W x0 w0 r0 r1 x3 w3 x4 w4 x5 w5 x6 w6 x7 x8 x9 x10 x11).mono fun e W' ⟨he, bel⟩ => ?_
  subst he
  exact ⟨_, rfl, _, _, _, [], _, [], hW', trodAll_mk1 (shut_bool Tryz.underlying4 _), (trodAll_cons_mk (Below.trod laidOut (by kernel_rfl) (of_decide_eq_true (by kernel_rfl)) k0 bel lt0) (trodAll_cons_mk (Below.trod laidOut (by kernel_rfl) (of_decide_eq_true (by kernel_rfl)) k1 bel lt1) (trodAll_cons_mk (Below.trod laidOut (by kernel_rfl) (of_decide_eq_true (by kernel_rfl)) k2 bel lt2) (trodAll_mk0)))), rfl, bel.frame _, fun h => by cases h⟩

set_option maxRecDepth 100000 in
set_option maxHeartbeats 8000000 in
theorem closed : joinedFacts Tryz.prog 4 Tryz.f4 Rows.blockdecSoundsSpec Rows.blockdecSoundsRow = true := by
  unfold joinedFacts
  rw [once_all.1, once_all.2.1, once_all.2.2]
  repeat' (with_reducible apply and_intro)
  all_goals (as_aux_lemma => kernel_rfl)
set_option maxHeartbeats 8000000 in
theorem over : Rows.blockdecSoundsRow.holds Tryz.pinned (OpenSpec.ofChange Rows.blockdecSoundsSpec) :=
  OpenClaim.holds_of_wide 4 Tryz.f4 rfl rfl rfl rfl rfl rfl rfl ⟨rfl, rfl, rfl, rfl, rfl⟩ rfl rfl rfl rfl rfl (by as_aux_lemma => kernel_rfl) Tryz.func4 closed
    (of_decide_eq_true (by as_aux_lemma => kernel_rfl)) (by unfold Func.isWrapper; first | (rw [if_pos (by decide +kernel)]; kernel_rfl) | (rw [if_neg (by decide +kernel)]; exact ⟨rfl, rfl⟩))
    (fun os started H enc _ => lifted os started H enc)

/-- The statement. -/
theorem proved : Rows.BlockdecSoundsSaid := over
#print axioms proved
end Go.Proofs.YtjpjohchdfoeaaaGreat.blockdecSounds
