import Derived.Test.YtlflfkdnpalhlaaSame
/-! Two blocks that carry the same. -/
namespace Go.Proofs.Ytlflfkdnpalhlaa
open Go.Sim
open Go.RowKit
set_option linter.unusedVariables false
set_option linter.unusedSimpArgs false

structure TwoB (h0 H : Heap) (p c p' c' : Nat) (w hh : Nat) (b : BS) : Prop where
  cb : CB H false p c b
  cb' : CB H false p' c' b
  good : b.Good
  bw : b.w = w
  bh : b.h = hh
  d1 : c ≠ c'
  d2 : c ≠ p'
  d3 : c' ≠ p
  far : h0.length ≤ c ∧ h0.length ≤ c'
  low : ∀ id, id < h0.length → blk? H id = blk? h0 id
  len : h0.length ≤ H.length
section
variable {h0 H : Heap} {p c p' c' w hh : Nat} {b : BS}
theorem TwoB.mid (t : TwoB h0 H p c p' c' w hh b) (x : Option Blk) : CB (H.set c x) false p' c' b :=
  ⟨by rw [blk?_set_ne t.d2]; exact t.cb'.blkp, by rw [blk?_set_ne t.d1]; exact t.cb'.blkc, t.cb'.ok⟩
theorem TwoB.upd (t : TwoB h0 H p c p' c' w hh b) {x y : Int} (hi : b.inb x y) {f : Cell → Cell} (hg : (b.upd x y f).Good) :
    TwoB h0 ((H.set c (some ⟨false, encC (b.upd x y f).cs⟩)).set c' (some ⟨false, encC (b.upd x y f).cs⟩)) p c p' c' w hh (b.upd x y f) := by
  have h1 := t.cb.set (b' := b.upd x y f) rfl rfl hg.ok
  have h2 := (t.mid (some ⟨false, encC (b.upd x y f).cs⟩)).set (b' := b.upd x y f) rfl rfl hg.ok
  refine ⟨⟨by rw [blk?_set_ne t.d3]; exact h1.blkp, by rw [blk?_set_ne t.d1.symm]; exact h1.blkc, hg.ok⟩, h2, hg, t.bw, t.bh, t.d1, t.d2, t.d3, t.far, fun id hid => ?_, by simp; exact t.len⟩
  rw [blk?_set_ne (by have := t.far.2; omega), blk?_set_ne (by have := t.far.1; omega)]
  exact t.low id hid
end
end Go.Proofs.Ytlflfkdnpalhlaa
