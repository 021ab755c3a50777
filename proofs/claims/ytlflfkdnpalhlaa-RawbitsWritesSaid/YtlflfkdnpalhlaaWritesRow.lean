/-
  RawbitsWrites returns true at every input: the results of any calls of a writer are those of the reference's writer.
  Conditions: none beyond the given statement's own.
-/
import Derived.Test.YtlflfkdnpalhlaaRows
import Derived.Test.YtlflfkdnpalhlaaWrites
import Derived.Test.YtlflfkdnpalhlaaSimU
import Derived.WalkKit
import Derived.ProofKit
import Derived.OpenShut
import Derived.ChangeOld
import Derived.Below
namespace Go.Proofs.Ytlflfkdnpalhlaa.rawbitsWrites
open Go.ChangeShapes Go.WideShapes Go.ChangeAt Go.RowKit
set_option linter.unusedVariables false

theorem mixed : Try.prog.follows .mixedOrders = true := by kernel_rfl
theorem own : ownKnob Try.prog.godebug = none := by kernel_rfl
theorem laidOut : laidOutB Try.prog = true := by kernel_rfl

theorem walk (a0 : Option Addr) (len0 cap0 : Nat) (cs : List Value) (w : World) (w0 : (⟨2, a0, len0, cap0, cs⟩ : Sim.Row).ok w) (hcs : ∀ i, i < cap0 → ∃ a b : Int, (cs.drop (i * 2)).take 2 = [.int .i64 a, .int .i64 b]) :
    Calls Try.prog 3 #[.slice a0 len0 cap0] w fun e w' => e = .returned (.bool true) ∧ Below w.heap.size w w' := by
  have hle : len0 ≤ cap0 := by
    rcases w0 with ⟨_, h, _, _⟩ | ⟨_, _, h, _⟩
    · simp only at h; omega
    · exact h
  have hs := Sim.sl_row (rs := [⟨2, a0, len0, cap0, cs⟩]) (id := 0) rfl w0 (by simp)
  refine Sim.calls_of_ret Go.Proofs.Ytlflfkdnpalhlaa.tabOk mixed rfl (ret3 hs ?_) (Sim.allRo_heapOf _) (Sim.rel_heapOf (by simp [w0])) (Sim.LRel.cons (Sim.vrel_row rfl w0 (by simp)) (Sim.LRel.nil _)) (Sim.rhoOf_none _)
  intro i hi
  simp only at hi
  obtain ⟨a, b, hab⟩ := hcs i (by omega)
  have g0 : (cs.drop (i * 2))[0]? = some (.int .i64 a) := by
    have : ((cs.drop (i * 2)).take 2)[0]? = some (.int .i64 a) := by rw [hab]; rfl
    rwa [List.getElem?_take, if_pos (by omega)] at this
  have g1 : (cs.drop (i * 2))[1]? = some (.int .i64 b) := by
    have : ((cs.drop (i * 2)).take 2)[1]? = some (.int .i64 b) := by rw [hab]; rfl
    rwa [List.getElem?_take, if_pos (by omega)] at this
  rw [List.getElem?_drop] at g0 g1
  refine ⟨a, b, ?_, ?_⟩
  · simp only; rw [List.getElem?_take, if_pos (by omega)]; exact g0
  · simp only; rw [List.getElem?_take, if_pos (by omega)]; exact g1

set_option maxRecDepth 100000 in
theorem lifted (os : Os) (started : os.Started) (H : Type) (enc : TypeId × Value → H) :
    ReturnsInHanded {} Try.checked os 3 .any (Rows.rawbitsWritesSpec.pre6 enc Try.prog Try.f3 Rows.rawbitsWritesRow.domain false) (Rows.rawbitsWritesSpec.post enc Try.prog Try.f3 false true false false) := by
  refine returnsInHanded_of_change (C := Try.checked) own started (by kernel_rfl) Try.func3
    (ChangeSpec.witness6 (enc := enc) (C := Try.checked) false ⟨#[], #[.slice none 0 0], []⟩ 8 (by kernel_rfl) (by kernel_rfl) (by kernel_rfl) (by kernel_rfl)) ?_
  intro W base args ds gs before hval0 hW hcnd _
  have hval : ∀ (j : Nat) t v, Try.f3.params[j]? = some t → args[j]? = some v → Value.okWide Try.prog W .any base t v := hval0
  have hW' := hW
  obtain ⟨p, q, hA0, hV, rfl, hfz, hnd⟩ := hW
  have hA : DataW.TrodAll enc Try.prog W 0 (fun _ => true) true Try.f3.params.toList args.toList ds p := hA0
  rw [Try.params3] at hA hval
  obtain ⟨v0, vs0, d0, ds0, p0, q0, hargs, rfl, rfl, h0, r0⟩ := trodAll_cons hA
  obtain ⟨rfl, rfl, rfl⟩ := trodAll_nil r0
  obtain rfl : args = #[v0] := by cases args; simp_all
  obtain ⟨rfl, rfl⟩ := trodVars_none hV
  obtain ⟨a0, len0, cap0, rfl⟩ := okWide_slice Try.underlying22 (hval 0 22 v0 rfl rfl)
  have k0 := h0
  have lt0 : ∀ x ∈ p0, x.block < W.heap.size := by obtain ⟨m, hm⟩ := k0; exact DataW.trod_lt m _ _ _ hm
  obtain ⟨cs, w0, hcs⟩ : ∃ cs, (⟨2, a0, len0, cap0, cs⟩ : Sim.Row).ok W ∧ ∀ i, i < cap0 → ∃ a b : Int, (cs.drop (i * 2)).take 2 = [.int .i64 a, .int .i64 b] := by
    obtain ⟨fuel, hf⟩ := h0
    obtain ⟨cs, hok, _, hg⟩ := Sim.open_row (sz := 2) (Good := fun cs => ∃ a b : Int, cs = [.int .i64 a, .int .i64 b]) Try.underlying22 (by kernel_rfl) (by omega)
      (fun cs ⟨a, b, e⟩ v hv => by rw [e] at hv; simp at hv; rcases hv with rfl | rfl <;> exact ⟨rfl, rfl⟩)
      (fun n cs y _ h => by
        obtain ⟨a, b, e, _⟩ := Sim.struct2_ints Try.underlying29 (by kernel_rfl) rfl rfl Try.underlying3 Try.underlying3 rfl rfl (by kernel_rfl) (by kernel_rfl) h
        exact ⟨a, b, e⟩) hf
    exact ⟨cs, hok, hg⟩
  clear hA0 hval0
  refine (walk a0 len0 cap0 cs W w0 hcs).mono fun e W' ⟨he, bel⟩ => ?_
  subst he
  exact ⟨_, rfl, _, _, _, [], _, [], hW', trodAll_mk1 (shut_bool Try.underlying4 _), (trodAll_cons_mk (Below.trod laidOut (by kernel_rfl) (of_decide_eq_true (by kernel_rfl)) k0 bel lt0) trodAll_mk0), rfl, bel.frame _, fun h => by cases h⟩

theorem over : Rows.rawbitsWritesRow.holds Try.pinned (OpenSpec.ofChange Rows.rawbitsWritesSpec) :=
  OpenClaim.holds_of_wide 3 Try.f3 rfl rfl rfl rfl rfl rfl rfl ⟨rfl, rfl, rfl, rfl, rfl⟩ rfl rfl rfl rfl rfl (by kernel_rfl) Try.func3 (by kernel_rfl)
    (of_decide_eq_true (by kernel_rfl)) (by unfold Func.isWrapper; first | (rw [if_pos (by decide +kernel)]; kernel_rfl) | (rw [if_neg (by decide +kernel)]; exact ⟨rfl, rfl⟩))
    (fun os started H enc _ => lifted os started H enc)

/-- The statement. -/
theorem proved : Rows.RawbitsWritesSaid := over
#print axioms proved
end Go.Proofs.Ytlflfkdnpalhlaa.rawbitsWrites
