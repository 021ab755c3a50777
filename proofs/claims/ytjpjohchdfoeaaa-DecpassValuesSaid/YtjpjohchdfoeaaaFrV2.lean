/-
  A row of slices that came in: its rows and its own cells, as blocks.
  Rows of symbols that came in.
  DecpassValues: the input, opened.
  DecpassValues: the input, opened.
-/
import Derived.Test.YtjpjohchdfoeaaaSimX
import Derived.Test.YtjpjohchdfoeaaaVals2
import Derived.Test.YtjpjohchdfoeaaaFr
import Derived.WalkKit
import Derived.ProofKit
import Derived.OpenShut
import Derived.ChangeArms
import Derived.ChangeSlices
import Derived.ChangeOld
import Derived.Below
namespace Go.Sim
set_option linter.unusedSimpArgs false
set_option linter.unusedVariables false
/-- A slice of slices in the memory: its address, length and capacity, and the rows that its elements lead to. -/
structure OutOk (W : World) (x : Addr) (n cap : Nat) (rs : List Row) : Prop where
  le : n ≤ cap
  rl : rs.length = n
  cell : ∀ i (h : i < rs.length), W.cell? (x.add i) = some (.slice rs[i].a rs[i].len rs[i].cap)
  ex : ∀ i, i < cap → ∃ v, W.cell? (x.add i) = some v
  ok : ∀ r ∈ rs, r.ok W
  esz : ∀ r ∈ rs, 0 < r.esz
def outCells (rs : List Row) : List Value := rs.zipIdx.map fun p => p.1.val p.2
def heapO (rs : List Row) : Heap := heapOf rs ++ [some ⟨true, outCells rs⟩]
def rhoO (rs : List Row) (x : Addr) (cap : Nat) : PMap := fun id => if id = rs.length then some ⟨x.block, x.off, cap, 1⟩ else rhoOf rs id
theorem outCells_get {rs : List Row} {i : Nat} (h : i < rs.length) : (outCells rs)[i]? = some (rs[i].val i) := by
  simp [outCells, List.getElem?_zipIdx, h]
theorem outCells_len (rs : List Row) : (outCells rs).length = rs.length := by simp [outCells]
theorem heapOf_len (rs : List Row) : (heapOf rs).length = rs.length := by simp [heapOf]
theorem heapO_len (rs : List Row) : (heapO rs).length = rs.length + 1 := by simp [heapO, heapOf_len]
theorem rhoO_le (rs : List Row) (x : Addr) (cap : Nat) : PLe (rhoOf rs) (rhoO rs x cap) := by
  intro id p hp
  unfold rhoO
  by_cases h : id = rs.length
  · subst h
    rw [rhoOf_none rs _ (by rw [heapOf_len]; exact Nat.le_refl _)] at hp; cases hp
  · rw [if_neg h]; exact hp
theorem row_isCell (r : Row) (id : Nat) : Sim.isCell (r.val id) = true := by
  unfold Row.val
  split <;> rfl
theorem allRo_heapO (rs : List Row) : AllRo (heapO rs) := fun id b hb => by
  unfold heapO at hb
  by_cases h : id < (heapOf rs).length
  · rw [blk?_push_lt h] at hb; exact allRo_heapOf rs id b hb
  · have hl := blk?_lt hb
    simp at hl
    obtain rfl : id = (heapOf rs).length := by omega
    rw [blk?_push_eq] at hb; injection hb with hb; subst hb; rfl
theorem rhoO_none (rs : List Row) (x : Addr) (cap id : Nat) (h : (heapO rs).length ≤ id) : rhoO rs x cap id = none := by
  rw [heapO_len] at h
  unfold rhoO
  rw [if_neg (by omega)]
  exact rhoOf_none rs id (by rw [heapOf_len]; omega)
theorem rel_heapO {rs : List Row} {W : World} {x : Addr} {n cap : Nat} (h : OutOk W x n cap rs) (hc : 0 < cap) : Rel (rhoO rs x cap) (view (heapO rs)) W := by
  have hR := rel_heapOf h.ok
  have hle := rhoO_le rs x cap
  refine ⟨fun id b hb => ?_, fun i j bi bj p q hi hj hij hro => ?_⟩
  · have hb' : blk? (heapO rs) id = some b := hb
    unfold heapO at hb'
    by_cases hid : id < (heapOf rs).length
    · rw [blk?_push_lt hid] at hb'
      obtain ⟨p, c, t, fz, a1, a2, a3, a4, a5, a6⟩ := hR.blk id b hb'
      exact ⟨p, c, t, fz, hle id p a1, a2, a3, a4, fun i v hv => by
        obtain ⟨q1, v', q2, q3⟩ := a5 i v hv
        exact ⟨q1, v', q2, q3.mono hle⟩, a6⟩
    · have hl := blk?_lt hb'
      simp at hl
      have hid' : id = rs.length := by rw [heapOf_len] at hid; simp [heapOf_len] at hl; omega
      have e : blk? (heapOf rs ++ [some ⟨true, outCells rs⟩]) id = some ⟨true, outCells rs⟩ := by rw [hid', ← heapOf_len rs]; exact blk?_push_eq
      rw [e] at hb'; injection hb' with hb'; subst hb'
      obtain ⟨v0, hv0⟩ := h.ex 0 hc
      have hsp : x.spot = none := by
        have := World.cell?_spot hv0
        simpa [Addr.add] using this
      have hblk : ∀ i, (x.add i).block = x.block ∧ (x.add i).off = x.off + i ∧ (x.add i).spot = none := by
        intro i
        unfold Addr.add
        by_cases hi : i = 0
        · subst hi; simp [hsp]
        · simp [hi]
      obtain ⟨c, t, fz, hh⟩ : ∃ c t fz, W.heap[x.block]? = some (.cells c t fz) := by
        have := hv0
        unfold World.cell? at this
        rw [(hblk 0).1] at this
        split at this
        · rename_i c t fz h1; exact ⟨c, t, fz, h1⟩
        · cases this
      have hget : ∀ i v, W.cell? (x.add i) = some v → c[x.off + i]? = some v := by
        intro i v hv
        have := hv
        unfold World.cell? at this
        rw [(hblk i).1, hh] at this
        simpa [(hblk i).2.1, (hblk i).2.2] using this
      refine ⟨⟨x.block, x.off, cap, 1⟩, c, t, fz, by unfold rhoO; rw [if_pos hid'], hh, ?_, ?_, fun i v hv => ?_, fun h => by cases h⟩
      · obtain ⟨v, hv⟩ := h.ex (cap - 1) (by omega)
        have := (Array.getElem?_eq_some_iff.1 (hget _ _ hv)).1
        simp only
        omega
      · simp only [outCells_len]; have := h.le; have := h.rl; omega
      · have hi : i < rs.length := by have := (List.getElem?_eq_some_iff.1 hv).1; rwa [outCells_len] at this
        rw [outCells_get hi] at hv
        injection hv with hv; subst hv
        have hm := List.getElem_mem hi
        exact ⟨row_isCell _ _, _, hget i _ (h.cell i hi), (vrel_row (List.getElem?_eq_getElem hi) (h.ok _ hm) (h.esz _ hm)).mono hle⟩
  · have := allRo_heapO rs i bi hi
    rw [this] at hro; cases hro
theorem vrel_out {rs : List Row} {W : World} {x : Addr} {n cap : Nat} (h : OutOk W x n cap rs) (hc : 0 < cap) : VRel (rhoO rs x cap) (.slice (some ⟨rs.length, 0, none⟩) n 1) (.slice (some x) n cap) := by
  obtain ⟨v0, hv0⟩ := h.ex 0 hc
  have hsp : x.spot = none := by
    have := World.cell?_spot hv0
    simpa [Addr.add] using this
  obtain ⟨b, off, spot⟩ := x
  simp only at hsp; subst hsp
  have := VRel.slice (ρ := rhoO rs ⟨b, off, none⟩ cap) (id := rs.length) (off := 0) (n := n) (c := 1) (cap := cap) (p := ⟨b, off, cap, 1⟩) (by simp [rhoO]) rfl h.le (by simp)
  simpa using this
end Go.Sim
namespace Go.Proofs.Ytjpjohchdfoeaaa
open Go Go.Sim
set_option linter.unusedSimpArgs false
set_option linter.unusedVariables false
theorem psI_out {W : World} {x : Addr} {n cap : Nat} {rs : List Row} {ls : List (List (Int × Int))} (h : OutOk W x n cap rs) (h2 : ∀ r ∈ rs, r.esz = 2) (hl : ls.length = rs.length) (hc : ∀ i (h1 : i < rs.length) (h2 : i < ls.length), ls[i].length = rs[i].len ∧ rs[i].cs.take (rs[i].len * 2) = encP ls[i]) :
    PsI (heapO rs) (.slice (some ⟨rs.length, 0, none⟩) n 1) (outCells rs) ls := by
  have hol := outCells_len rs
  have hrl := h.rl
  have hlast : blk? (heapO rs) rs.length = some ⟨true, outCells rs⟩ := by
    have := blk?_push_eq (h := heapOf rs) (x := some ⟨true, outCells rs⟩)
    rw [heapOf_len] at this
    exact this
  refine ⟨⟨by omega, .inr ⟨rs.length, 0, by rw [hol, hrl], .inr ⟨_, hlast, by simp, by rw [List.drop_zero]; exact List.take_of_length_le (by simp)⟩⟩⟩, by omega, fun i h1 h2' => ?_, fun i h1 id hid => ?_⟩
  · have hi : i < rs.length := by omega
    have e : (outCells rs)[i] = rs[i].val i := by
      have := outCells_get hi
      rw [List.getElem?_eq_getElem h1] at this
      exact Option.some.inj this
    have hm := List.getElem_mem hi
    have hsl := sl_row (List.getElem?_eq_getElem hi) (h.ok _ hm) (h.esz _ hm)
    rw [h2 _ hm] at hsl
    obtain ⟨a1, a2⟩ := hc i hi h2'
    rw [e, a1, ← a2]
    exact hsl.push _
  · have hi : i < rs.length := by omega
    have e : (outCells rs)[i] = rs[i].val i := by
      have := outCells_get hi
      rw [List.getElem?_eq_getElem h1] at this
      exact Option.some.inj this
    rw [e] at hid
    rw [heapO_len]
    unfold Row.val at hid
    split at hid
    · simp [sid] at hid
    · simp [sid] at hid; omega
theorem psI_none (s : Value) (h : s = .slice none 0 0) : PsI [] s [] [] := by
  subst h
  exact ⟨⟨rfl, .inl ⟨rfl, rfl⟩⟩, rfl, fun i h1 h2 => by simp at h1, fun i h1 id hid => by simp at h1⟩
open Go.ChangeShapes Go.WideShapes Go.ChangeAt Go.RowKit
theorem pairs_row {cs : List Value} {cap : Nat} (hg : ∀ i, i < cap → ∃ a b : Int, (cs.drop (i * 2)).take 2 = [.int .i64 a, .int .i64 b]) : ∀ n, n ≤ cap → ∃ l : List (Int × Int), l.length = n ∧ cs.take (n * 2) = encP l
  | 0, _ => ⟨[], rfl, by simp [encP]⟩
  | n + 1, h => by
    obtain ⟨l, h1, h2⟩ := pairs_row hg n (by omega)
    obtain ⟨a, b, e⟩ := hg n (by omega)
    refine ⟨l ++ [(a, b)], by simp [h1], ?_⟩
    rw [encP_append, ← h2, show (n + 1) * 2 = n * 2 + 2 by omega, List.take_add, e]; rfl
section
variable {H : Type} {enc : TypeId × Value → H} {W : World}
/-- A slice of symbols, one cell. -/
theorem open_syms {n : Nat} {v : Value} {y : DataW H × List MemPlace} (h : DataW.trod enc Try.prog W 0 (fun _ => true) true n 39 [v] = some y) :
    ∃ (r : Row) (l : List (Int × Int)), v = .slice r.a r.len r.cap ∧ r.ok W ∧ r.esz = 2 ∧ l.length = r.len ∧ r.cs.take (r.len * 2) = encP l ∧ ((∀ k ∈ y.1.weights Try.prog 39, k ≤ reachBytes) → l.length * 16 ≤ reachBytes) := by
  have hC : Try.prog.cellsOf 73 = 2 := by kernel_rfl
  have hB : Try.prog.bytesOf 73 = 16 := by kernel_rfl
  rcases DataW.trod_slice Try.underlying39 h with ⟨hcs, _⟩ | ⟨a, len, cap, elems, rest, n', _, hcs, hy, _, hle, _, hlen, _, _, _⟩
  · simp at hcs
    exact ⟨⟨2, none, 0, 0, []⟩, [], hcs, .inl ⟨rfl, rfl, rfl, rfl⟩, rfl, rfl, by simp [encP], fun _ => by simp⟩
  · simp at hcs
    subst hcs
    obtain ⟨cs, hok, hm, hgd⟩ := open_row (Good := fun cs => ∃ a b : Int, cs = [.int .i64 a, .int .i64 b]) Try.underlying39 hC (by omega) (fun cs hcs v hv => by
      obtain ⟨a, b, rfl⟩ := hcs
      simp at hv
      rcases hv with rfl | rfl <;> exact ⟨rfl, rfl⟩) (fun n cs y hl hy => by
      obtain ⟨a, b, e, _, _⟩ := struct2_ints Try.underlying73 hC rfl rfl Try.underlying3 Try.underlying3 rfl rfl (by kernel_rfl) (by kernel_rfl) hy
      exact ⟨a, b, e⟩) h
    obtain ⟨l, l1, l2⟩ := pairs_row hgd len hle
    refine ⟨⟨2, some a, len, cap, cs⟩, l, rfl, hok, rfl, l1, l2, fun hw => ?_⟩
    have hmem : (elems.length + rest.length) * 16 ∈ y.1.weights Try.prog 39 := by
      rw [hy]
      unfold DataW.weights
      rw [Try.underlying39]
      simp [hB]
    have := hw _ hmem
    rw [hlen] at this
    omega
theorem weightsAll_mem {P : Program} {e : TypeId} : ∀ {l : List (DataW H)} {d : DataW H} {k : Nat}, d ∈ l → k ∈ d.weights P e → k ∈ DataW.weightsAll P e l
  | x :: l, d, k, hd, hk => by
    rw [DataW.weightsAll, List.mem_append]
    rcases List.mem_cons.1 hd with rfl | hd
    · exact .inl hk
    · exact .inr (weightsAll_mem hd hk)
/-- A slice of rows of symbols, one cell. -/
theorem open_rows {n : Nat} {v : Value} {y : DataW H × List MemPlace} (h : DataW.trod enc Try.prog W 0 (fun _ => true) true n 51 [v] = some y) (hw : ∀ k ∈ y.1.weights Try.prog 51, k ≤ reachBytes) :
    v = .slice none 0 0 ∨ (∃ x, v = .slice (some x) 0 0) ∨ ∃ (x : Addr) (n cap : Nat) (rs : List Row) (ls : List (List (Int × Int))), v = .slice (some x) n cap ∧ 0 < cap ∧ OutOk W x n cap rs ∧ (∀ r ∈ rs, r.esz = 2) ∧ ls.length = rs.length ∧
      (∀ i (h1 : i < rs.length) (h2 : i < ls.length), ls[i].length = rs[i].len ∧ rs[i].cs.take (rs[i].len * 2) = encP ls[i]) ∧ (∀ l ∈ ls, l.length * 16 ≤ reachBytes) ∧ n * 24 ≤ reachBytes := by
  have hC : Try.prog.cellsOf 39 = 1 := by kernel_rfl
  have hB : Try.prog.bytesOf 39 = 24 := by kernel_rfl
  rcases DataW.trod_slice Try.underlying51 h with ⟨hcs, _⟩ | ⟨a, len, cap, elems, rest, n', _, hcs, hy, _, hle, _, hlen, hel, hsp, _⟩
  · simp at hcs
    exact .inl hcs
  · simp at hcs
    subst hcs
    by_cases hc0 : cap = 0
    · subst hc0
      obtain rfl : len = 0 := by omega
      exact .inr (.inl ⟨a, rfl⟩)
    rw [hC] at hel hsp
    obtain ⟨hrl, hr⟩ := hsp rfl
    have hcell : ∀ i (o : Option (DataW H × List MemPlace)) z, (W.cells? 0 (a.add (i * 1)) 1).bind (DataW.trod enc Try.prog W 0 (fun _ => true) true n' 39) = o → o = some z → ∃ v, W.cell? (a.add i) = some v ∧ DataW.trod enc Try.prog W 0 (fun _ => true) true n' 39 [v] = some z := by
      intro i o z ho hz
      rw [hz, Option.bind_eq_some_iff] at ho
      obtain ⟨cs', hcs, hz'⟩ := ho
      obtain ⟨_, c2, c3⟩ := World.cells?_some hcs
      match cs', c2 with
      | [v], _ =>
        have := c3 0 (by omega)
        rw [Addr.add_add, Nat.mul_one, Nat.add_zero] at this
        exact ⟨v, by simpa using this, hz'⟩
    have hW : ∀ i (hi : i < elems.length), ∀ k ∈ elems[i].1.weights Try.prog 39, k ≤ reachBytes := by
      intro i hi k hk
      refine hw k ?_
      rw [hy]
      unfold DataW.weights
      rw [Try.underlying51]
      simp only [List.mem_cons, List.mem_append]
      exact .inr (.inl (weightsAll_mem (List.mem_map.2 ⟨elems[i], List.getElem_mem hi, rfl⟩) hk))
    have each : ∀ i : Fin len, ∃ (r : Row) (l : List (Int × Int)), W.cell? (a.add i) = some (.slice r.a r.len r.cap) ∧ r.ok W ∧ r.esz = 2 ∧ l.length = r.len ∧ r.cs.take (r.len * 2) = encP l ∧ l.length * 16 ≤ reachBytes := by
      intro i
      have hi : i.1 < elems.length := by rw [hlen]; exact i.2
      obtain ⟨v, hv, ht⟩ := hcell i.1 _ elems[i.1] (hel i.1 i.2) (List.getElem?_eq_getElem hi)
      obtain ⟨r, l, e1, e2, e3, e4, e5, e6⟩ := open_syms ht
      exact ⟨r, l, by rw [hv, e1], e2, e3, e4, e5, e6 (hW i.1 hi)⟩
    obtain ⟨r, l, hrl6⟩ : ∃ (r : Fin len → Row) (l : Fin len → List (Int × Int)), ∀ i : Fin len, W.cell? (a.add i) = some (.slice (r i).a (r i).len (r i).cap) ∧ (r i).ok W ∧ (r i).esz = 2 ∧ (l i).length = (r i).len ∧ (r i).cs.take ((r i).len * 2) = encP (l i) ∧ (l i).length * 16 ≤ reachBytes :=
      ⟨fun i => (each i).choose, fun i => (each i).choose_spec.choose, fun i => (each i).choose_spec.choose_spec⟩
    have hr1 := fun i => (hrl6 i).1
    have hr2 := fun i => (hrl6 i).2.1
    have hr3 := fun i => (hrl6 i).2.2.1
    have hr4 := fun i => (hrl6 i).2.2.2.1
    have hr5 := fun i => (hrl6 i).2.2.2.2.1
    have hr6 := fun i => (hrl6 i).2.2.2.2.2
    have hwn : (elems.length + rest.length) * 24 ≤ reachBytes := by
      refine hw _ ?_
      rw [hy]
      unfold DataW.weights
      rw [Try.underlying51]
      simp [hB]
    refine .inr (.inr ⟨a, len, cap, List.ofFn r, List.ofFn l, rfl, by omega, ⟨hle, by simp, fun i hi => ?_, fun i hi => ?_, fun x hx => ?_, fun x hx => ?_⟩, fun x hx => ?_, by simp, fun i h1 h2 => ?_, fun x hx => ?_, by rw [hlen] at hwn; omega⟩)
    · simp only [List.getElem_ofFn]
      exact hr1 ⟨i, by simpa using hi⟩
    · by_cases hil : i < len
      · exact ⟨_, hr1 ⟨i, hil⟩⟩
      · obtain ⟨v, hv, _⟩ := hcell i _ (rest[i - len]'(by omega)) (by have := hr (i - len) (by omega); rw [show len + (i - len) = i by omega] at this; exact this) (List.getElem?_eq_getElem _)
        exact ⟨v, hv⟩
    · obtain ⟨i, hi, rfl⟩ := List.getElem_of_mem hx
      rw [List.getElem_ofFn]; exact hr2 _
    · obtain ⟨i, hi, rfl⟩ := List.getElem_of_mem hx
      rw [List.getElem_ofFn, hr3]; omega
    · obtain ⟨i, hi, rfl⟩ := List.getElem_of_mem hx
      rw [List.getElem_ofFn]; exact hr3 _
    · simp only [List.getElem_ofFn]
      exact ⟨hr4 _, hr5 _⟩
    · obtain ⟨i, hi, rfl⟩ := List.getElem_of_mem hx
      rw [List.getElem_ofFn]; exact hr6 _
end
section
variable {H : Type} {enc : TypeId × Value → H} {W : World}
/-- The input with the slice s of rows. -/
def inVal (s : Value) (P w hh o : Int) (m : MD) : Value := .agg #[s, .int .i64 P, .int .i64 w, .int .i64 hh, .int .i64 o, .bool m.byp, .bool m.res, .bool m.rst, .bool m.cz, .bool m.sy]
set_option maxRecDepth 100000 in
theorem open_input {base : Nat} {v : Value} {d : DataW H} {p : List MemPlace} (hv : Value.okWide Try.prog W .any base 53 v) (h : DataW.Trod enc Try.prog W 0 (fun _ => true) true 53 v d p) (hw : ∀ k ∈ d.weights Try.prog 53, k ≤ reachBytes) :
    ∃ (s : Value) (P w hh o : Int) (m : MD), v = inVal s P w hh o m ∧ (-9223372036854775808 ≤ P ∧ P < 9223372036854775808) ∧ (s = .slice none 0 0 ∨ (∃ x, s = .slice (some x) 0 0) ∨ ∃ (x : Addr) (n cap : Nat) (rs : List Row) (ls : List (List (Int × Int))), s = .slice (some x) n cap ∧ 0 < cap ∧ OutOk W x n cap rs ∧ (∀ r ∈ rs, r.esz = 2) ∧ ls.length = rs.length ∧
      (∀ i (h1 : i < rs.length) (h2 : i < ls.length), ls[i].length = rs[i].len ∧ rs[i].cs.take (rs[i].len * 2) = encP ls[i]) ∧ (∀ l ∈ ls, l.length * 16 ≤ reachBytes) ∧ n * 24 ≤ reachBytes) := by
  obtain ⟨cs, rfl, hsz⟩ := okWide_struct Try.underlying53 hv
  obtain ⟨l⟩ := cs
  have hC : Try.prog.cellsOf 53 = 10 := by kernel_rfl
  rw [hC] at hsz
  have hsz' : l.length = 10 := by simpa using hsz
  obtain ⟨c0, c1, c2, c3, c4, c5, c6, c7, c8, c9, rfl⟩ := list10 hsz'
  obtain ⟨fuel, hf⟩ := h
  obtain ⟨xs, n, _, hx, hl, hlen, hf⟩ := DataW.trod_struct Try.underlying53 hf
  have k3 : Try.prog.cellsOf 3 = 1 := by kernel_rfl
  have k42 : Try.prog.cellsOf 51 = 1 := by kernel_rfl
  have k52 : Try.prog.cellsOf 24 = 1 := by kernel_rfl
  have k54 : Try.prog.cellsOf 26 = 5 := by kernel_rfl
  have k4 : Try.prog.cellsOf 4 = 1 := by kernel_rfl
  have hlen' : xs.length = 6 := hlen
  have h0 := fld (hf 0 _ rfl) (by omega) (t := 51) (o := 0) rfl rfl k42
  have h1 := fld (hf 1 _ rfl) (by omega) (t := 3) (o := 1) rfl rfl k3
  have h2 := fld (hf 2 _ rfl) (by omega) (t := 3) (o := 2) rfl rfl k3
  have h3 := fld (hf 3 _ rfl) (by omega) (t := 3) (o := 3) rfl rfl k3
  have h4 := fld (hf 4 _ rfl) (by omega) (t := 24) (o := 4) rfl rfl k52
  have h5 := fld (hf 5 _ rfl) (by omega) (t := 26) (o := 5) rfl rfl k54
  simp only [Value.cells, List.drop_zero, List.drop_succ_cons, List.take_succ_cons, List.take_zero] at h0 h1 h2 h3 h4 h5
  have hw0 : ∀ k ∈ (xs[0]'(by omega)).1.weights Try.prog 51, k ≤ reachBytes := by
    intro k hk
    refine hw k ?_
    have hd : d = .agg (xs.map (·.1)) := by have := congrArg Prod.fst hx; simpa using this
    have e : xs.map (·.1) = (xs[0]'(by omega)).1 :: (xs.drop 1).map (·.1) := by
      have := List.drop_eq_getElem_cons (l := xs) (i := 0) (by omega)
      rw [List.drop_zero] at this
      exact congrArg (List.map (·.1)) this
    rw [hd, e]
    unfold DataW.weights
    rw [Try.underlying53]
    exact List.mem_append_left _ hk
  obtain ⟨P, e1, _, wP⟩ := DataW.trod_int Try.underlying3 h1
  obtain ⟨w, e2, _, _⟩ := DataW.trod_int Try.underlying3 h2
  obtain ⟨hh, e3, _, _⟩ := DataW.trod_int Try.underlying3 h3
  obtain ⟨o, e4, _, _⟩ := DataW.trod_int Try.underlying24 h4
  obtain ⟨ys, m, _, hy, hl', hlen2, hg⟩ := DataW.trod_struct Try.underlying26 h5
  have hlen2' : ys.length = 5 := hlen2
  have g0 := fld (hg 0 _ rfl) (by omega) (t := 4) (o := 0) rfl rfl k4
  have g1 := fld (hg 1 _ rfl) (by omega) (t := 4) (o := 1) rfl rfl k4
  have g2 := fld (hg 2 _ rfl) (by omega) (t := 4) (o := 2) rfl rfl k4
  have g3 := fld (hg 3 _ rfl) (by omega) (t := 4) (o := 3) rfl rfl k4
  have g4 := fld (hg 4 _ rfl) (by omega) (t := 4) (o := 4) rfl rfl k4
  simp only [List.drop_zero, List.drop_succ_cons, List.take_succ_cons, List.take_zero] at g0 g1 g2 g3 g4
  obtain ⟨b0, f0, _⟩ := DataW.trod_bool Try.underlying4 g0
  obtain ⟨b1, f1, _⟩ := DataW.trod_bool Try.underlying4 g1
  obtain ⟨b2, f2, _⟩ := DataW.trod_bool Try.underlying4 g2
  obtain ⟨b3, f3, _⟩ := DataW.trod_bool Try.underlying4 g3
  obtain ⟨b4, f4, _⟩ := DataW.trod_bool Try.underlying4 g4
  simp only [List.cons.injEq, and_true] at e1 e2 e3 e4 f0 f1 f2 f3 f4
  subst e1 e2 e3 e4 f0 f1 f2 f3 f4
  refine ⟨c0, P, w, hh, o, ⟨b0, b1, b2, b3, b4⟩, rfl, wf_i64 wP, open_rows h0 hw0⟩
end
end Go.Proofs.Ytjpjohchdfoeaaa
