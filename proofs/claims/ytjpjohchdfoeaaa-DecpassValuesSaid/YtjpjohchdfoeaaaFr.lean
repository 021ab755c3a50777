import Derived.Test.YtjpjohchdfoeaaaRows
import Derived.Test.YtjpjohchdfoeaaaInp
import Derived.WalkKit
import Derived.ProofKit
import Derived.OpenShut
import Derived.ChangeArms
import Derived.ChangeSlices
import Derived.ChangeOld
import Derived.Below
/-! The block that came in, opened. -/
namespace Go.Proofs.Ytjpjohchdfoeaaa
open Go.Sim
open Go.Sim (IsRow rowOf)
open Go.ChangeShapes Go.WideShapes Go.ChangeAt Go.RowKit
set_option linter.unusedVariables false
set_option linter.unusedSimpArgs false

theorem list10 {α : Type} {l : List α} (h : l.length = 10) : ∃ a b c d e f g i j k, l = [a, b, c, d, e, f, g, i, j, k] := by
  match l, h with
  | [a, b, c, d, e, f, g, i, j, k], _ => exact ⟨a, b, c, d, e, f, g, i, j, k, rfl⟩
theorem list5 {α : Type} {l : List α} (h : l.length = 5) : ∃ a b c d e, l = [a, b, c, d, e] := by
  match l, h with
  | [a, b, c, d, e], _ => exact ⟨a, b, c, d, e, rfl⟩

section
variable {H : Type} {enc : TypeId × Value → H} {W : World}
/-- A field. -/
theorem fld {n : Nat} {f : Field} {cs : List Value} {xs : List (DataW H × List MemPlace)} {i : Nat} (h : DataW.trod enc Try.prog W 0 (fun _ => true) true n f.type ((cs.drop f.offset).take (Try.prog.cellsOf f.type)) = xs[i]?) (hi : i < xs.length)
    {t : TypeId} {o k : Nat} (ht : f.type = t) (ho : f.offset = o) (hk : Try.prog.cellsOf t = k) : DataW.trod enc Try.prog W 0 (fun _ => true) true n t ((cs.drop o).take k) = some xs[i] := by
  subst ht ho hk
  rw [h, List.getElem?_eq_getElem hi]
/-- A slice of integers, one cell. -/
theorem open_row1 {t e : TypeId} {k : IntKind} {fuel : Nat} {c : Value} {x : DataW H × List MemPlace} (ht : Try.prog.underlying t = some (.slice e)) (he : Try.prog.underlying e = some (.int k)) (hc : Try.prog.cellsOf e = 1)
    (h : DataW.trod enc Try.prog W 0 (fun _ => true) true fuel t [c] = some x) : ∃ a len cap zs, c = .slice a len cap ∧ IsRow k W a len cap zs := by
  rcases open_ints ht he hc h with ⟨hcs, _⟩ | ⟨x, l, c', zs, hcs, _, hl, hm, hz, _, hcell, hwz⟩
  · simp at hcs
    exact ⟨none, 0, 0, [], hcs, .inl ⟨rfl, rfl, rfl, rfl⟩⟩
  · simp at hcs
    exact ⟨_, l, c', zs, hcs, .inr ⟨_, rfl, hl, hm, by simpa using hz, hcell, hwz⟩⟩
set_option maxRecDepth 100000 in
/-- A block. -/
theorem open_block {base : Nat} {v : Value} {d : DataW H} {p : List MemPlace} (hv : Value.okWide Try.prog W .any base 28 v) (h : DataW.Trod enc Try.prog W 0 (fun _ => true) true 28 v d p) :
    ∃ (i : Inp) (a : Option Addr) (len cap : Nat) (z : List Int) (a' : Option Addr) (len' cap' : Nat) (z' : List Int), v = i.val (.slice a len cap) (.slice a' len' cap') ∧ IsRow .i64 W a len cap z ∧ IsRow .u8 W a' len' cap' z' ∧ i.xs = z.take len ∧ i.fl = len' := by
  obtain ⟨cs, rfl, hsz⟩ := okWide_struct Try.underlying28 hv
  obtain ⟨l⟩ := cs
  have hC : Try.prog.cellsOf 28 = 10 := by kernel_rfl
  rw [hC] at hsz
  have hsz' : l.length = 10 := by simpa using hsz
  obtain ⟨c0, c1, c2, c3, c4, c5, c6, c7, c8, c9, rfl⟩ := list10 hsz'
  obtain ⟨fuel, hf⟩ := h
  obtain ⟨xs, n, _, _, hl, hlen, hf⟩ := DataW.trod_struct Try.underlying28 hf
  have k3 : Try.prog.cellsOf 3 = 1 := by kernel_rfl
  have k42 : Try.prog.cellsOf 22 = 1 := by kernel_rfl
  have k31 : Try.prog.cellsOf 23 = 1 := by kernel_rfl
  have k52 : Try.prog.cellsOf 24 = 1 := by kernel_rfl
  have k54 : Try.prog.cellsOf 26 = 5 := by kernel_rfl
  have k4 : Try.prog.cellsOf 4 = 1 := by kernel_rfl
  have hlen' : xs.length = 6 := hlen
  have h0 := fld (hf 0 _ rfl) (by omega) (t := 3) (o := 0) rfl rfl k3
  have h1 := fld (hf 1 _ rfl) (by omega) (t := 3) (o := 1) rfl rfl k3
  have h2 := fld (hf 2 _ rfl) (by omega) (t := 22) (o := 2) rfl rfl k42
  have h3 := fld (hf 3 _ rfl) (by omega) (t := 23) (o := 3) rfl rfl k31
  have h4 := fld (hf 4 _ rfl) (by omega) (t := 24) (o := 4) rfl rfl k52
  have h5 := fld (hf 5 _ rfl) (by omega) (t := 26) (o := 5) rfl rfl k54
  simp only [Value.cells, List.drop_zero, List.drop_succ_cons, List.take_succ_cons, List.take_zero] at h0 h1 h2 h3 h4 h5
  obtain ⟨w, e0, _, _⟩ := DataW.trod_int Try.underlying3 h0
  obtain ⟨hh, e1, _, _⟩ := DataW.trod_int Try.underlying3 h1
  obtain ⟨a, len, cap, z, rfl, r1⟩ := open_row1 Try.underlying22 Try.underlying3 k3 h2
  obtain ⟨a', len', cap', z', rfl, r2⟩ := open_row1 Try.underlying23 Try.underlying5 (by kernel_rfl) h3
  obtain ⟨o, e4, _, _⟩ := DataW.trod_int Try.underlying24 h4
  obtain ⟨ys, m, _, hy, hl', hlen2, hg⟩ := DataW.trod_struct Try.underlying26 h5
  have hlen2' : ys.length = 5 := hlen2
  have g0 := fld (hg 0 _ rfl) (by omega) (t := 4) (o := 0) rfl rfl k4
  have g1 := fld (hg 1 _ rfl) (by omega) (t := 4) (o := 1) rfl rfl k4
  have g2 := fld (hg 2 _ rfl) (by omega) (t := 4) (o := 2) rfl rfl k4
  have g3 := fld (hg 3 _ rfl) (by omega) (t := 4) (o := 3) rfl rfl k4
  have g4 := fld (hg 4 _ rfl) (by omega) (t := 4) (o := 4) rfl rfl k4
  simp only [List.drop_zero, List.drop_succ_cons, List.take_succ_cons, List.take_zero] at g0 g1 g2 g3 g4
  obtain ⟨b0, f0, _⟩ := DataW.trod_bool Try.underlying4 g0
  obtain ⟨b1, f1, _⟩ := DataW.trod_bool Try.underlying4 g1
  obtain ⟨b2, f2, _⟩ := DataW.trod_bool Try.underlying4 g2
  obtain ⟨b3, f3, _⟩ := DataW.trod_bool Try.underlying4 g3
  obtain ⟨b4, f4, _⟩ := DataW.trod_bool Try.underlying4 g4
  simp only [List.cons.injEq, and_true] at e0 e1 e4 f0 f1 f2 f3 f4
  subst e0 e1 e4 f0 f1 f2 f3 f4
  exact ⟨⟨w, hh, z.take len, len', o, ⟨b0, b1, b2, b3, b4⟩⟩, a, len, cap, z, a', len', cap', z', rfl, r1, r2, rfl, rfl⟩
end

/-- The rows of a block. -/
def rowsOf (a : Option Addr) (len cap : Nat) (z : List Int) (a' : Option Addr) (len' cap' : Nat) (z' : List Int) : List Row := [rowOf .i64 a len cap z, rowOf .u8 a' len' cap' z']
theorem rowsOk {W : World} {a : Option Addr} {len cap : Nat} {z : List Int} {a' : Option Addr} {len' cap' : Nat} {z' : List Int} (h1 : IsRow .i64 W a len cap z) (h2 : IsRow .u8 W a' len' cap' z') : ∀ r ∈ rowsOf a len cap z a' len' cap' z', r.ok W := by
  intro r hr
  simp only [rowsOf, List.mem_cons, List.mem_nil_iff, or_false] at hr
  rcases hr with rfl | rfl
  · exact h1.ok
  · exact h2.ok
theorem vrel_block {ρ : PMap} {i : Inp} {s t s' t' : Value} (hs : VRel ρ s s') (ht : VRel ρ t t') (cs : Sim.isCell s = true) (ct : Sim.isCell t = true) : VRel ρ (i.val s t) (i.val s' t') := by
  refine LRel.agg (l := [.int .i64 i.w, .int .i64 i.h, s, t, .int .i64 i.o, .bool i.m.byp, .bool i.m.res, .bool i.m.rst, .bool i.m.cz, .bool i.m.sy]) (l' := [.int .i64 i.w, .int .i64 i.h, s', t', .int .i64 i.o, .bool i.m.byp, .bool i.m.res, .bool i.m.rst, .bool i.m.cz, .bool i.m.sy]) ?_ ?_
  · exact .cons (.int _ _) (.cons (.int _ _) (.cons hs (.cons ht (.cons (.int _ _) (.cons (.bool _) (.cons (.bool _) (.cons (.bool _) (.cons (.bool _) (.cons (.bool _) (LRel.nil _))))))))))
  · intro v hv
    simp only [List.mem_cons, List.mem_nil_iff, or_false] at hv
    rcases hv with rfl | rfl | rfl | rfl | rfl | rfl | rfl | rfl | rfl | rfl <;> first | rfl | assumption
theorem isCell_val {r : Row} {id : Nat} : Sim.isCell (r.val id) = true := by
  unfold Row.val; split <;> rfl
theorem shape_val {k : IntKind} {a : Option Addr} {len cap : Nat} {z : List Int} {W : World} (h : IsRow k W a len cap z) {id : Nat} : ∃ a' c, (rowOf k a len cap z).val id = .slice a' len c := by
  unfold Row.val
  rcases h with ⟨rfl, rfl, rfl, rfl⟩ | ⟨x, rfl, _⟩
  · exact ⟨_, _, rfl⟩
  · exact ⟨_, _, rfl⟩
theorem below_val {k : IntKind} {a : Option Addr} {len cap : Nat} {z : List Int} {W : World} (h : IsRow k W a len cap z) {rs : List Row} {r : Row} : below (heapOf (r :: rowOf k a len cap z :: rs)).length ((rowOf k a len cap z).val 1) = true := by
  unfold Row.val
  split
  · simp
  · simp [heapOf]
theorem vrel_rows {W : World} {i : Inp} {a : Option Addr} {len cap : Nat} {z : List Int} {a' : Option Addr} {len' cap' : Nat} {z' : List Int} (h1 : IsRow .i64 W a len cap z) (h2 : IsRow .u8 W a' len' cap' z') :
    VRel (rhoOf (rowsOf a len cap z a' len' cap' z')) (i.val ((rowOf .i64 a len cap z).val 0) ((rowOf .u8 a' len' cap' z').val 1)) (i.val (.slice a len cap) (.slice a' len' cap')) :=
  vrel_block (vrel_row (r := rowOf .i64 a len cap z) (rs := rowsOf a len cap z a' len' cap' z') rfl h1.ok (by simp [rowOf])) (vrel_row (r := rowOf .u8 a' len' cap' z') (rs := rowsOf a len cap z a' len' cap' z') rfl h2.ok (by simp [rowOf])) isCell_val isCell_val
end Go.Proofs.Ytjpjohchdfoeaaa
