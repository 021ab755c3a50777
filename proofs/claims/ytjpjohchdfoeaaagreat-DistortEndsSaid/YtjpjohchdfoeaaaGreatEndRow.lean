/-
  DistortEnds returns true at every input: the curve of a block begins with the sum of squares, and ends with 0.
  Conditions: none beyond the given statement's own.
-/
import Derived.Test.YtjpjohchdfoeaaaGreatRows
import Derived.Test.YtjpjohchdfoeaaaGreatOnce
import Derived.Test.YtjpjohchdfoeaaaGreatRetEn2
import Derived.WalkKit
import Derived.ProofKit
import Derived.OpenShut
import Derived.ShutString
import Derived.ChangeOld
import Derived.Below
namespace Go.Proofs.YtjpjohchdfoeaaaGreat.distortEnds
open Go.Sim (Gi1 rowOf)
open Go.ChangeShapes Go.WideShapes Go.ChangeAt Go.RowKit
set_option linter.unusedVariables false
set_option linter.unusedSimpArgs false

theorem mixed : Tryz.prog.follows .mixedOrders = true:=by kernel_rfl
theorem own : ownKnob Tryz.prog.godebug = none:=by kernel_rfl
theorem laidOut : laidOutB Tryz.prog = true:=by kernel_rfl

theorem walk (w : World) {b0 : Option Addr} {l0 c0 : Nat} {z0 : List Int} (r0 : Gi1 .i64 w b0 l0 c0 z0) (x1 : Int) (w1 : (Lit.int .i64 x1).wf = true) (x2 : Int) (w2 : (Lit.int .i64 x2).wf = true) (x3 : Int) (w3 : (Lit.int .i64 x3).wf = true) (x4 : Bool) (x5 : Bool) (x6 : Bool) (x7 : Bool) (x8 : Bool) (x9 : Int) (w9 : (Lit.int .i64 x9).wf = true) (x10 : Int) (w10 : (Lit.int .i64 x10).wf = true) (x11 : Int) (w11 : (Lit.int .i64 x11).wf = true) (x12 : Int) (w12 : (Lit.int .i64 x12).wf = true) :
    Calls Tryz.prog 8 #[(.slice b0 l0 c0), .agg #[(.int .i64 x1), (.int .i64 x2), (.int .i64 x3), (.bool x4), (.bool x5), (.bool x6), (.bool x7), (.bool x8), (.int .i64 x9), (.int .i64 x10), (.int .i64 x11), (.int .i64 x12)]] w fun e w'=>e = .returned (.bool true)∧Below w.heap.size w w' :=
  Sim.calls_of_ret (h:=Sim.heapOf [rowOf .i64 b0 l0 c0 z0]) Go.Proofs.YtjpjohchdfoeaaaGreat.tabOk mixed rfl (G6c (Sim.Rk.row r0 (rs:=[rowOf .i64 b0 l0 c0 z0]) (id:=0) rfl)) (Sim.allRo_heapOf _) (Sim.rel_heapOf (by
    intro r hr
    simp only [List.mem_cons, List.mem_nil_iff, or_false] at hr
    rcases hr with rfl
    · exact r0.ok)) (Sim.LRel.cons (Sim.vrel_row (r:=rowOf .i64 b0 l0 c0 z0) (rs:=[rowOf .i64 b0 l0 c0 z0]) rfl r0.ok (by simp [rowOf])) (Sim.LRel.cons (Sim.LRel.agg (l:=[(.int .i64 x1), (.int .i64 x2), (.int .i64 x3), (.bool x4), (.bool x5), (.bool x6), (.bool x7), (.bool x8), (.int .i64 x9), (.int .i64 x10), (.int .i64 x11), (.int .i64 x12)]) (l':=[(.int .i64 x1), (.int .i64 x2), (.int .i64 x3), (.bool x4), (.bool x5), (.bool x6), (.bool x7), (.bool x8), (.int .i64 x9), (.int .i64 x10), (.int .i64 x11), (.int .i64 x12)]) (.cons (.int _ _) (.cons (.int _ _) (.cons (.int _ _) (.cons (.bool _) (.cons (.bool _) (.cons (.bool _) (.cons (.bool _) (.cons (.bool _) (.cons (.int _ _) (.cons (.int _ _) (.cons (.int _ _) (.cons (.int _ _) (Sim.LRel.nil _))))))))))))) (Sim.all_cons rfl (Sim.all_cons rfl (Sim.all_cons rfl (Sim.all_cons rfl (Sim.all_cons rfl (Sim.all_cons rfl (Sim.all_cons rfl (Sim.all_cons rfl (Sim.all_cons rfl (Sim.all_cons rfl (Sim.all_cons rfl (Sim.all_cons rfl (Sim.all_nil)))))))))))))) (Sim.LRel.nil _))) (Sim.rhoOf_none _)

set_option maxRecDepth 100000 in
theorem lifted (os : Os) (started : os.Started) (H : Type) (enc : TypeId × Value→H) :
    ReturnsInHanded {} Tryz.checked os 8 .any (Rows.distortEndsSpec.pre6 enc Tryz.prog Tryz.f8 Rows.distortEndsRow.domain false) (Rows.distortEndsSpec.post enc Tryz.prog Tryz.f8 false true false false):=by
  refine returnsInHanded_of_change (C:=Tryz.checked) own started (by kernel_rfl) Tryz.func8
    (ChangeSpec.witness6 (enc:=enc) (C:=Tryz.checked) false ⟨#[], #[.slice none 0 0, .agg #[.int .i64 0, .int .i64 0, .int .i64 0, .bool false, .bool false, .bool false, .bool false, .bool false, .int .i64 0, .int .i64 0, .int .i64 0, .int .i64 0]], []⟩ 8 (by kernel_rfl) (by kernel_rfl) (by kernel_rfl) (by kernel_rfl)) ?_
  intro W base args ds gs before hval0 hW hcnd _
  have hval : ∀ (j : Nat) t v, Tryz.f8.params[j]? = some t→args[j]? = some v→Value.okWide Tryz.prog W .any base t v:=hval0
  have hW':=hW
  obtain ⟨p, q, hA0, hV, rfl, hfz, hnd⟩:=hW
  have hA : DataW.TrodAll enc Tryz.prog W 0 (fun _=>true) true Tryz.f8.params.toList args.toList ds p:=hA0
  rw [Tryz.params8] at hA hval
  obtain ⟨v0, vs0, d0, ds0, p0, q0, hargs, rfl, rfl, h0, t0⟩:=trodAll_cons hA
  obtain ⟨v1, vs1, d1, ds1, p1, q1, rfl, rfl, rfl, h1, t1⟩:=trodAll_cons t0
  obtain ⟨rfl, rfl, rfl⟩:=trodAll_nil t1
  obtain rfl : args = #[v0, v1]:=by cases args; simp_all
  obtain ⟨rfl, rfl⟩:=trodVars_none hV
  have k0:=h0
  have lt0 : ∀ x ∈ p0, x.block < W.heap.size:=by obtain ⟨m, hm⟩:=k0; exact DataW.trod_lt m _ _ _ hm
  have k1:=h1
  have lt1 : ∀ x ∈ p1, x.block < W.heap.size:=by obtain ⟨m, hm⟩:=k1; exact DataW.trod_lt m _ _ _ hm
  obtain ⟨f0, g0⟩:=Sim.open_flat (l:=[.sl .i64]) 6 (by kernel_rfl) (hval 0 22 v0 rfl rfl) h0
  obtain ⟨sa0, sl0, sc0, rfl⟩:=okWide_slice Tryz.underlying22 (hval 0 22 v0 rfl rfl)
  obtain ⟨e0_0, _⟩:=(show Sim.Fits W [.sl .i64] [.slice sa0 sl0 sc0] from f0)
  obtain ⟨b0, l0, c0, z0, e0, r0⟩:=e0_0
  obtain ⟨rfl, rfl, rfl⟩ : sa0 = b0∧sl0 = l0∧sc0 = c0:=by simpa using e0
  obtain ⟨f1, g1⟩:=Sim.open_flat (l:=[.int .i64, .int .i64, .int .i64, .bool, .bool, .bool, .bool, .bool, .int .i64, .int .i64, .int .i64, .int .i64]) 6 (by kernel_rfl) (hval 1 46 v1 rfl rfl) h1
  obtain ⟨⟨cs1⟩, rfl⟩:=g1 (by kernel_rfl)
  have f1 : Sim.Fits W [.int .i64, .int .i64, .int .i64, .bool, .bool, .bool, .bool, .bool, .int .i64, .int .i64, .int .i64, .int .i64] cs1:=f1
  obtain ⟨u1_0, m1_0, rfl, e1_0, n1_0⟩:=Sim.Fits.cons f1
  obtain ⟨u1_1, m1_1, rfl, e1_1, n1_1⟩:=Sim.Fits.cons n1_0
  obtain ⟨u1_2, m1_2, rfl, e1_2, n1_2⟩:=Sim.Fits.cons n1_1
  obtain ⟨u1_3, m1_3, rfl, e1_3, n1_3⟩:=Sim.Fits.cons n1_2
  obtain ⟨u1_4, m1_4, rfl, e1_4, n1_4⟩:=Sim.Fits.cons n1_3
  obtain ⟨u1_5, m1_5, rfl, e1_5, n1_5⟩:=Sim.Fits.cons n1_4
  obtain ⟨u1_6, m1_6, rfl, e1_6, n1_6⟩:=Sim.Fits.cons n1_5
  obtain ⟨u1_7, m1_7, rfl, e1_7, n1_7⟩:=Sim.Fits.cons n1_6
  obtain ⟨u1_8, m1_8, rfl, e1_8, n1_8⟩:=Sim.Fits.cons n1_7
  obtain ⟨u1_9, m1_9, rfl, e1_9, n1_9⟩:=Sim.Fits.cons n1_8
  obtain ⟨u1_10, m1_10, rfl, e1_10, n1_10⟩:=Sim.Fits.cons n1_9
  obtain ⟨u1_11, m1_11, rfl, e1_11, n1_11⟩:=Sim.Fits.cons n1_10
  obtain rfl:=Sim.Fits.nil n1_11
  obtain ⟨x1, rfl, w1⟩:=e1_0
  obtain ⟨x2, rfl, w2⟩:=e1_1
  obtain ⟨x3, rfl, w3⟩:=e1_2
  obtain ⟨x4, rfl⟩:=e1_3
  obtain ⟨x5, rfl⟩:=e1_4
  obtain ⟨x6, rfl⟩:=e1_5
  obtain ⟨x7, rfl⟩:=e1_6
  obtain ⟨x8, rfl⟩:=e1_7
  obtain ⟨x9, rfl, w9⟩:=e1_8
  obtain ⟨x10, rfl, w10⟩:=e1_9
  obtain ⟨x11, rfl, w11⟩:=e1_10
  obtain ⟨x12, rfl, w12⟩:=e1_11
  clear hA0 hval0
  refine (walk W r0 x1 w1 x2 w2 x3 w3 x4 x5 x6 x7 x8 x9 w9 x10 w10 x11 w11 x12 w12).mono fun e W' ⟨he, bel⟩=>?_
  subst he
  exact ⟨_, rfl, _, _, _, [], _, [], hW', trodAll_mk1 (shut_bool Tryz.underlying4 _), (trodAll_cons_mk (Below.trod laidOut (by kernel_rfl) (of_decide_eq_true (by kernel_rfl)) k0 bel lt0) (trodAll_cons_mk (Below.trod laidOut (by kernel_rfl) (of_decide_eq_true (by kernel_rfl)) k1 bel lt1) (trodAll_mk0))), rfl, bel.frame _, fun h=>by cases h⟩

set_option maxRecDepth 100000 in
set_option maxHeartbeats 8000000 in
theorem closed : joinedFacts Tryz.prog 8 Tryz.f8 Rows.distortEndsSpec Rows.distortEndsRow = true:=by
  unfold joinedFacts
  rw [once_all.1, once_all.2.1, once_all.2.2]
  repeat' (with_reducible apply and_intro)
  all_goals (as_aux_lemma=>kernel_rfl)
set_option maxHeartbeats 8000000 in
theorem over : Rows.distortEndsRow.holds Tryz.pinned (OpenSpec.ofChange Rows.distortEndsSpec) :=
  OpenClaim.holds_of_wide 8 Tryz.f8 rfl rfl rfl rfl rfl rfl rfl ⟨rfl, rfl, rfl, rfl, rfl⟩ rfl rfl rfl rfl rfl (by as_aux_lemma=>kernel_rfl) Tryz.func8 closed
    (of_decide_eq_true (by as_aux_lemma=>kernel_rfl)) (by unfold Func.isWrapper; first | (rw [if_pos (by decide +kernel)]; kernel_rfl) | (rw [if_neg (by decide +kernel)]; exact ⟨rfl, rfl⟩))
    (fun os started H enc _=>lifted os started H enc)

/-- The statement. -/
theorem proved : Rows.DistortEndsSaid:=over
#print axioms proved
end Go.Proofs.YtjpjohchdfoeaaaGreat.distortEnds
