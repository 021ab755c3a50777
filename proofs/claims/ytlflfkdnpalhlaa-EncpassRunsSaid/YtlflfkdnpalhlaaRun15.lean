import Derived.Test.YtlflfkdnpalhlaaBld2
/-! The passes of EncpassRuns. -/
namespace Go.Proofs.Ytlflfkdnpalhlaa
open Go.Sim
open Go.RowKit
set_option linter.unusedVariables false
set_option linter.unusedSimpArgs false

theorem runOut_le {m : MD} {b : BS} (hg : b.Good) {n planes o : Int} : (ES.mk b []).Le (runOut m b n planes o) 60000 := by
  unfold runOut
  split
  · exact out_le hg
  · exact ES.Le.refl hg _
/-- A pass on both blocks. -/
theorem runs_step {h0 H : Heap} {p c p' c' w hh : Nat} {b : BS} (tb : TwoB h0 H p c p' c' w hh b) (n planes o : Int) (m : MD) :
    ∃ s1 H1 s2 H2, (∀ R, Ret tab 35 [ptr p, .int .i64 n, .int .i64 planes, .int .i64 o, m.val] H R = R (.tuple #[s1, .int .i64 (runErr n planes o)]) H1) ∧
      (∀ R, Ret tab 36 [ptr p', .int .i64 n, .int .i64 planes, .int .i64 o, m.val] H1 R = R (.tuple #[s2, .int .i64 (runErr n planes o)]) H2) ∧
      TwoB h0 H2 p c p' c' w hh (runOut m b n planes o).b ∧ Syms H2 s1 (runOut m b n planes o).out ∧ Syms H2 s2 (runOut m b n planes o).out ∧ (runOut m b n planes o).out.length < 9000000000 ∧ (∀ id, id < h0.length → blk? H1 id = blk? h0 id) := by
  obtain ⟨s1, H1, e1, r1⟩ := run_c tb.cb tb.good.rng n planes o m
  have lp := blk?_lt tb.cb.blkp
  have lc := blk?_lt tb.cb.blkc
  have lp' := blk?_lt tb.cb'.blkp
  have lc' := blk?_lt tb.cb'.blkc
  have cb1 : CB H1 false p' c' b := ⟨by rw [r1.same _ lp' tb.d2.symm]; exact tb.cb'.blkp, by rw [r1.same _ lc' tb.d1.symm]; exact tb.cb'.blkc, tb.cb'.ok⟩
  obtain ⟨s2, H2, e2, r2⟩ := run_r cb1 tb.good.rng n planes o m
  have hle := runOut_le (m := m) (n := n) (planes := planes) (o := o) tb.good
  have g1 := r1.len
  have g2 := r2.len
  refine ⟨s1, H1, s2, H2, e1, e2, ?_, ?_, syms_own r2.own, ?_, fun id hid => ?_⟩
  · refine ⟨⟨by rw [r2.same _ (by omega) tb.d3.symm]; exact r1.cb.blkp, by rw [r2.same _ (by omega) tb.d1]; exact r1.cb.blkc, r1.cb.ok⟩, r2.cb, r1.good, by rw [hle.w]; exact tb.bw, by rw [hle.h]; exact tb.bh, tb.d1, tb.d2, tb.d3, tb.far, fun id hid => ?_, by have := tb.len; omega⟩
    have := tb.len
    rw [r2.same id (by omega) (by have := tb.far.2; omega), r1.same id (by omega) (by have := tb.far.1; omega)]
    exact tb.low id hid
  · exact syms_own (r1.own.of_blk fun id hid hb => by rw [r2.same id (r1.own.lt hid) (by have := r1.fresh id hid; omega)]; exact hb)
  · have := hle.len; simp at this; omega
  · have := tb.len
    rw [r1.same id (by omega) (by have := tb.far.1; omega)]
    exact tb.low id hid
end Go.Proofs.Ytlflfkdnpalhlaa
