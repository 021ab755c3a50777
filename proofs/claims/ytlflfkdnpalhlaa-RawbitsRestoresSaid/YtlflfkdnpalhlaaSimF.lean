/-
  Loads, new blocks and writes: in the program as in the evaluator.
-/
import Derived.Test.YtlflfkdnpalhlaaSimE
import Derived.Laws.AppendOwn
namespace Go.Sim
open Go.RowKit

section
variable {P : Program} {ρ : PMap} {w : World} {e : Env} {ev' : Operand → Value} {h : Heap}

theorem loadVar_run {t : TypeId} {g : Bool} {n : Nat} (hg : aggT P t = some g) (hn : sizeT P t = some n) (hr : Rel ρ (view h) w) {a a' v : Value} (ha : VRel ρ a a') (hl : loadV h n g a = some v) :
    ∃ v', (Instr.loadAt t a').run P w = .ok v' w ∧ VRel ρ v v' := by
  obtain ⟨ad, v', rfl, hv, hx⟩ := rel_load (P := P) hr ha hl
  cases g with
  | true =>
    obtain ⟨cs, rfl, hx⟩ := hx
    exact ⟨_, by simp [Instr.loadAt, Instr.sureAddr, loadVar, agg_of hg, size_of hn, hx], hv⟩
  | false =>
    simp only at hx
    refine ⟨v', ?_, hv⟩
    simp only [Instr.loadAt, Instr.sureAddr, loadVar, Sem.run_bind, Sem.run_pure, Result.andThen_ok, agg_of hg, Bool.false_eq_true, if_false]
    exact hx

theorem firstC_run {esz n : Nat} {y y' : Value} {new : List Value} (hr : Rel ρ (view h) w) (hy : VRel ρ y y') (hf : firstC h esz n y = some new) :
    ∃ new', (∀ w2 : World, w2.heap = w.heap → (Builtin.firstCells esz n y').run P w2 = .ok new'.toArray w2) ∧ LRel ρ new new' ∧ (∀ v ∈ new, Sim.isCell v = true) ∧ new'.length = n * esz := by
  cases hy with
  | nilS =>
    simp only [firstC] at hf
    split at hf <;> try cases hf
    rename_i hn
    subst hn
    exact ⟨[], fun w2 _ => by simp [Builtin.firstCells], LRel.nil ρ, by simp, by simp⟩
  | @slice id off len c cap p hp hz hle hc =>
    simp only [firstC] at hf
    by_cases h0 : n = 0
    · rw [if_pos h0] at hf
      injection hf with hf; subst hf; subst h0
      exact ⟨[], fun w2 _ => run_firstCells_some (P := P) w2 esz 0 _ len cap [] (by simp) (fun j v hv => by simp at hv), LRel.nil ρ, by simp, by simp⟩
    rw [if_neg h0] at hf
    cases hb : blk? h id with
    | none => rw [hb] at hf; cases hf
    | some b =>
      rw [hb] at hf
      simp only at hf
      split at hf <;> try cases hf
      rename_i hn
      obtain ⟨cs', h1, h2, h3, h4⟩ := (hr.blk id b (view_blk hb)).part off (n * esz) hn.2 hp
      refine ⟨cs', fun w2 hw2 => ?_, h1, h2, h3⟩
      refine run_firstCells_some (P := P) w2 esz n _ len cap cs' h3 (fun j v hv => ?_)
      have := h4 j v hv
      unfold World.cell? at this ⊢
      rw [hw2]; exact this
  | @sliceE id off c p a hp =>
    simp only [firstC] at hf
    have hn0 : n = 0 ∧ new = [] := by
      by_cases h0 : n = 0
      · rw [if_pos h0] at hf; injection hf with hf; exact ⟨h0, hf.symm⟩
      rw [if_neg h0] at hf
      cases hb : blk? h id with
      | none => rw [hb] at hf; cases hf
      | some b =>
        rw [hb] at hf
        simp only at hf
        split at hf <;> try cases hf
        rename_i hn
        omega
    · obtain ⟨rfl, rfl⟩ := hn0
      refine ⟨[], fun w2 _ => ?_, LRel.nil ρ, by simp, by simp⟩
      simp [Builtin.firstCells, loadCells, loadCellsFrom]
  | str s =>
    simp only [firstC] at hf
    split at hf <;> try cases hf
    rename_i hn
    obtain ⟨rfl, rfl⟩ := hn
    refine ⟨s.data.toList.map fun b => .int .u8 b.toNat, fun w2 _ => ?_, ⟨rfl, fun i v hv => ⟨v, hv, ?_⟩⟩, ?_, ?_⟩
    · have : s.extract 0 s.size = s := by simp
      simp only [Builtin.firstCells, this, Sem.run_pure]
      congr 1
      apply Array.ext'
      simp
    · obtain ⟨b, hb, rfl⟩ := List.mem_map.1 (List.mem_of_getElem? hv)
      exact .int _ _
    · intro v hv
      obtain ⟨b, hb, rfl⟩ := List.mem_map.1 hv
      rfl
    · simp
  | _ => simp [firstC] at hf

theorem cls_of {op : Op} {rop : ROp} (hc : compileOp P op = some rop) :
    (rop.cls = .L → ∃ t a, op = .load t a) ∧
    (rop.cls = .A → (∃ t, op = .alloc t) ∨ (∃ t x, op = .box t x) ∨ (∃ t n ps, op = .buildSlice t n ps) ∨ (∃ t l c, op = .makeSlice t l c)) ∧
    (rop.cls = .W → (∃ t a x, op = .store t a x) ∨ ∃ c, op = .call c) := by
  cases op with
  | load t a =>
    simp only [compileOp] at hc
    repeat (split at hc <;> try (cases hc; done))
    injection hc with hc; subst hc
    exact ⟨fun _ => ⟨t, a, rfl⟩, by simp [ROp.cls], by simp [ROp.cls]⟩
  | alloc t =>
    simp only [compileOp] at hc
    cases hz : zeroCells P t with
    | none => rw [hz] at hc; cases hc
    | some l => rw [hz] at hc; simp at hc; subst hc; exact ⟨by simp [ROp.cls], fun _ => .inl ⟨t, rfl⟩, by simp [ROp.cls]⟩
  | box t x => simp only [compileOp] at hc; injection hc with hc; subst hc; exact ⟨by simp [ROp.cls], fun _ => .inr (.inl ⟨t, x, rfl⟩), by simp [ROp.cls]⟩
  | buildSlice t n ps =>
    simp only [compileOp] at hc
    repeat (split at hc <;> try (cases hc; done))
    injection hc with hc; subst hc
    exact ⟨by simp [ROp.cls], fun _ => .inr (.inr (.inl ⟨t, n, ps, rfl⟩)), by simp [ROp.cls]⟩
  | makeSlice t l c =>
    simp only [compileOp] at hc
    repeat (split at hc <;> try (cases hc; done))
    injection hc with hc; subst hc
    exact ⟨by simp [ROp.cls], fun _ => .inr (.inr (.inr ⟨t, l, c, rfl⟩)), by simp [ROp.cls]⟩
  | store t a x =>
    simp only [compileOp] at hc
    repeat (split at hc <;> try (cases hc; done))
    injection hc with hc; subst hc
    exact ⟨by simp [ROp.cls], by simp [ROp.cls], fun _ => .inl ⟨t, a, x, rfl⟩⟩
  | call c =>
    rcases compileCall_inv hc with ⟨f, args, tys, rfl, _, rfl⟩ | ⟨x, t, rfl, ⟨hu, rfl⟩ | ⟨⟨el, hu⟩, rfl⟩⟩ | ⟨x, xs, tys, rfl, rfl⟩ | ⟨x, xs, tys, rfl, rfl⟩ | ⟨x, y, t, u, el, i, z, rfl, _, _, _, _, rfl⟩ | ⟨x, y, t, u, el, i, rfl, _, _, rfl⟩ <;>
      exact ⟨by simp [ROp.cls], by simp [ROp.cls], fun _ => .inr ⟨_, rfl⟩⟩
  | makeFunc fn a b =>
    cases fn <;> simp only [compileOp] at hc <;> try (cases hc; done)
    split at hc <;> try cases hc
    exact ⟨by simp [ROp.cls], by simp [ROp.cls], by simp [ROp.cls]⟩
  | slice t x lo hi mx =>
    cases mx <;> simp only [compileOp] at hc <;> try (cases hc; done)
    split at hc
    · injection hc with hc; subst hc; exact ⟨by simp [ROp.cls], by simp [ROp.cls], by simp [ROp.cls]⟩
    · rename_i el hu
      cases hse : sizeT P el with
      | none => rw [hse] at hc; cases hc
      | some s => rw [hse] at hc; simp at hc; subst hc; exact ⟨by simp [ROp.cls], by simp [ROp.cls], by simp [ROp.cls]⟩
    · cases hc
  | binOp op t x y ty =>
    simp only [compileOp] at hc
    split at hc
    · injection hc with hc; subst hc; exact ⟨by simp [ROp.cls], by simp [ROp.cls], by simp [ROp.cls]⟩
    · injection hc with hc; subst hc; exact ⟨by simp [ROp.cls], by simp [ROp.cls], by simp [ROp.cls]⟩
    · cases op <;> simp only at hc <;> try (cases hc; done)
      all_goals
        cases hk : eqKind P t with
        | none => rw [hk] at hc; cases hc
        | some k => rw [hk] at hc; simp at hc; subst hc; exact ⟨by simp [ROp.cls], by simp [ROp.cls], by simp [ROp.cls]⟩
  | convert src dst x =>
    simp only [compileOp] at hc
    repeat (split at hc <;> try (cases hc; done))
    all_goals (injection hc with hc; subst hc; exact ⟨by simp [ROp.cls], by simp [ROp.cls], by simp [ROp.cls]⟩)
  | fieldAddr t x i =>
    simp only [compileOp] at hc
    repeat (split at hc <;> try (cases hc; done))
    all_goals (injection hc with hc; subst hc; exact ⟨by simp [ROp.cls], by simp [ROp.cls], by simp [ROp.cls]⟩)
  | field t x i =>
    simp only [compileOp] at hc
    repeat (split at hc <;> try (cases hc; done))
    all_goals (injection hc with hc; subst hc; exact ⟨by simp [ROp.cls], by simp [ROp.cls], by simp [ROp.cls]⟩)
  | indexAddr t x i =>
    simp only [compileOp] at hc
    split at hc
    · rename_i n el hu
      cases hse : sizeT P el with
      | none => rw [hse] at hc; cases hc
      | some s => rw [hse] at hc; simp at hc; subst hc; exact ⟨by simp [ROp.cls], by simp [ROp.cls], by simp [ROp.cls]⟩
    · rename_i el hu
      cases hse : sizeT P el with
      | none => rw [hse] at hc; cases hc
      | some s => rw [hse] at hc; simp at hc; subst hc; exact ⟨by simp [ROp.cls], by simp [ROp.cls], by simp [ROp.cls]⟩
    · cases hc
  | index t x i =>
    simp only [compileOp] at hc
    repeat (split at hc <;> try (cases hc; done))
    all_goals (injection hc with hc; subst hc; exact ⟨by simp [ROp.cls], by simp [ROp.cls], by simp [ROp.cls]⟩)
  | build t parts =>
    simp only [compileOp] at hc
    split at hc
    · rename_i fs z hu hz
      cases hpl : placesOf P fs.toList with
      | none => rw [hpl] at hc; cases hc
      | some pl => rw [hpl] at hc; simp at hc; subst hc; exact ⟨by simp [ROp.cls], by simp [ROp.cls], by simp [ROp.cls]⟩
    · rename_i n el z hu hz
      cases hse : sizeT P el with
      | none => rw [hse] at hc; cases hc
      | some s => rw [hse] at hc; simp at hc; subst hc; exact ⟨by simp [ROp.cls], by simp [ROp.cls], by simp [ROp.cls]⟩
    · cases hc
  | move x => simp only [compileOp] at hc; injection hc with hc; subst hc; exact ⟨by simp [ROp.cls], by simp [ROp.cls], by simp [ROp.cls]⟩
  | assign x => simp only [compileOp] at hc; injection hc with hc; subst hc; exact ⟨by simp [ROp.cls], by simp [ROp.cls], by simp [ROp.cls]⟩
  | pick c a b => simp only [compileOp] at hc; injection hc with hc; subst hc; exact ⟨by simp [ROp.cls], by simp [ROp.cls], by simp [ROp.cls]⟩
  | nilCheck x => simp only [compileOp] at hc; injection hc with hc; subst hc; exact ⟨by simp [ROp.cls], by simp [ROp.cls], by simp [ROp.cls]⟩
  | unOp op t x => simp only [compileOp] at hc; injection hc with hc; subst hc; exact ⟨by simp [ROp.cls], by simp [ROp.cls], by simp [ROp.cls]⟩
  | extract x i => simp only [compileOp] at hc; injection hc with hc; subst hc; exact ⟨by simp [ROp.cls], by simp [ROp.cls], by simp [ROp.cls]⟩
  | _ => simp only [compileOp] at hc; cases hc

/-- **AN OPERATION THAT READS MEMORY.** -/
theorem simL {op : Op} {rop : ROp} (hc : compileOp P op = some rop) (hcls : rop.cls = .L) (hr : Rel ρ (view h) w) (hops : ∀ x ∈ op.operands, VRel ρ (ev e x) (ev' x)) {v : Value} {h' : Heap} (hs : stepOp rop e h = some (v, h')) :
    h' = h ∧ ∃ v', OpGives P op ev' w v' ∧ VRel ρ v v' := by
  obtain ⟨t, a, rfl⟩ := (cls_of hc).1 hcls
  have ha := hops a (by simp [Op.operands])
  simp only [compileOp] at hc
  split at hc <;> try cases hc
  rename_i g n hg hn
  simp only [stepOp] at hs
  split at hs <;> try cases hs
  rename_i hl
  obtain ⟨v', h1, h2⟩ := loadVar_run hg hn hr ha hl
  exact ⟨rfl, v', fun dst ty pos after guard => by simp [execOp, h1], h2⟩

theorem repL_length (z : List Value) (n : Nat) : (repL z n).length = n * z.length := by
  induction n with
  | zero => simp [repL]
  | succ n ih => simp [repL, ih, Nat.add_mul]; omega

theorem repL_get (z : List Value) : ∀ (n i : Nat), i < n * z.length → (repL z n)[i]? = z[i % z.length]?
  | 0, i, h => by simp at h
  | n + 1, i, h => by
    rw [repL]
    by_cases hi : i < z.length
    · rw [List.getElem?_append_left hi, Nat.mod_eq_of_lt hi]
    · rw [List.getElem?_append_right (by omega), repL_get z n _ (by rw [Nat.add_mul] at h; omega), ← Nat.mod_eq_sub_mod (show i ≥ z.length by omega)]

theorem rep_cells (z : Value) (n : Nat) (hz : 0 < z.cells.size) (i : Nat) (hi : i < n) : ((Array.range n).map (fun j => z.cells[j % z.cells.size]!))[i]? = z.cells.toList[i % z.cells.toList.length]? := by
  have hm : i % z.cells.size < z.cells.size := Nat.mod_lt _ hz
  simp [hi, hm]

/-- **AN OPERATION THAT MAKES A BLOCK.** -/
theorem simA {op : Op} {rop : ROp} (hc : compileOp P op = some rop) (hcls : rop.cls = .A) (hops : ∀ x ∈ op.operands, VRel ρ (ev e x) (ev' x)) {v : Value} {h' : Heap} (hs : stepOp rop e h = some (v, h')) :
    ∃ (cells : List Value) (c : Array Value) (t : TypeId) (esz : Nat) (mk : Nat → Value), h' = h ++ [some ⟨false, cells⟩] ∧ cells.length ≤ c.size ∧ (∀ v ∈ cells, Sim.isCell v = true) ∧
      (∀ (i : Nat) v, cells[i]? = some v → ∃ v', c[i]? = some v' ∧ VRel ρ v v') ∧
      (∀ w : World, ∀ (dst : Option Tmp) (ty : TypeId) (pos : String) (after : Array Edge) (guard : Option (Nat × Bool)),
        (execOp ev' { dst, op, type := ty, pos, after, guard }).run P w = .ok (.value (mk w.heap.size)) { w with heap := w.heap.push (.cells c t) }) ∧
      (∀ (ρ' : PMap) b, ρ' h.length = some ⟨b, 0, c.size, esz⟩ → VRel ρ' v (mk b)) := by
  have hget : ∀ {l l' : List Value}, LRel ρ l l' → ∀ (i : Nat) v, l[i]? = some v → ∃ v', l'.toArray[i]? = some v' ∧ VRel ρ v v' := by
    intro l l' hl i v hv
    obtain ⟨v', h1, h2⟩ := hl.2 i v hv
    exact ⟨v', by simpa using h1, h2⟩
  rcases (cls_of hc).2.1 hcls with ⟨t, rfl⟩ | ⟨t, x, rfl⟩ | ⟨t, n, ps, rfl⟩ | ⟨t, l, c, rfl⟩
  · simp only [compileOp] at hc
    cases hz : zeroCells P t with
    | none => rw [hz] at hc; cases hc
    | some l =>
      rw [hz] at hc; simp at hc; subst hc
      obtain ⟨i, zv, hi, hzv, hna, hva, hsz, hpos, rfl⟩ := zero_of hz
      obtain ⟨hl, hcel⟩ := noAddr_cells hna hva ρ
      simp only [stepOp] at hs
      injection hs with hs; injection hs with h1 h2
      subst h1; subst h2
      refine ⟨zv.cells.toList, zv.cells, t, 1, fun b => .pointer (some ⟨b, 0, none⟩), rfl, by simp, hcel, fun i v hv => by simpa using hget hl i v hv, fun w dst ty pos after guard => ?_, fun ρ' b hb => ?_⟩
      · simp [execOp, Instr.alloc, run_zero hi hzv, newVar, newRow]
      · have := VRel.ptr (off := 0) hb; simpa using this
  · have hx := hops x (by simp [Op.operands])
    simp only [compileOp] at hc; injection hc with hc; subst hc
    simp only [stepOp] at hs
    split at hs <;> try cases hs
    rename_i hv
    refine ⟨(ev e x).cells.toList, (ev' x).cells, t, 1, fun b => .pointer (some ⟨b, 0, none⟩), rfl, by have := hx.cells.1; simp at this; simp; omega, hx.cellsOk hv, fun i v hv => by simpa using hget hx.cells i v hv, fun w dst ty pos after guard => ?_, fun ρ' b hb => ?_⟩
    · simp [execOp, Instr.box, newVar, newRow]
    · have := VRel.ptr (off := 0) hb; simpa using this
  · have hpr := parts_rel (e := e) (ev' := ev') (ρ := ρ) (parts := ps.toList) (fun p hp => hops p.2 (by simp [Op.operands]; exact ⟨p.1, by simpa using hp⟩))
    have hparts : (ps.map fun (i, x) => (i, ev' x)).toList = ps.toList.map fun p => (p.1, ev' p.2) := by simp
    simp only [compileOp] at hc
    split at hc <;> try cases hc
    rename_i el hu
    split at hc <;> try cases hc
    rename_i z hz
    split at hc <;> try cases hc
    rename_i hle
    obtain ⟨i, zv, hi, hzv, hna, hva, hsz, hpos, rfl⟩ := zero_of hz
    obtain ⟨hl, hcel⟩ := noAddr_cells hna hva ρ
    simp only [stepOp] at hs
    split at hs <;> try cases hs
    rename_i cs hf
    have hzl : zv.cells.toList.length = i.size := by simpa using hsz
    have hrepl : LRel ρ (repL zv.cells.toList n) ((Array.range (n * i.size)).map (fun j => zv.cells[j % zv.cells.size]!)).toList := by
      refine ⟨by simp [repL_length, hsz], fun j v hv => ?_⟩
      have hj : j < n * i.size := by have := (List.getElem?_eq_some_iff.1 hv).1; rw [repL_length, hzl] at this; exact this
      rw [repL_get _ _ _ (by rw [hzl]; exact hj)] at hv
      obtain ⟨v', h1, h2⟩ := hl.2 _ v hv
      refine ⟨v', ?_, h2⟩
      have := rep_cells zv (n * i.size) (by omega) j hj
      rw [h1] at this
      rw [Array.getElem?_toList]; exact this
    have hrc : ∀ v ∈ repL zv.cells.toList n, Sim.isCell v = true := by
      intro v hv
      obtain ⟨j, hj, rfl⟩ := List.getElem_of_mem hv
      have : (repL zv.cells.toList n)[j]? = some (repL zv.cells.toList n)[j] := by simp [hj]
      rw [repL_get _ _ _ (by rw [repL_length] at hj; exact hj)] at this
      exact hcel _ (List.mem_of_getElem? this)
    obtain ⟨out', hf', hr, hcc⟩ := fill_rel (ρ := ρ) _ _ _ _ _ _ hpr.1 hpr.2 hrepl hrc hf
    have hfl : ∀ (pl : Nat → Option (Nat × Nat)) (ps : List (Nat × Value)) (c out : List Value), fillL pl c ps = some out → out.length = c.length := by
      intro pl ps
      induction ps with
      | nil => intro c out h; simp [fillL] at h; subst h; rfl
      | cons p ps ih =>
        intro c out h
        obtain ⟨i, x⟩ := p
        simp only [fillL] at h
        split at h <;> try cases h
        split at h <;> try cases h
        rw [ih _ _ h, size_writeAt]
    have hlen := hfl _ _ _ _ hf
    rw [repL_length, hzl] at hlen
    refine ⟨cs, out', el, i.size, fun b => .slice (some ⟨b, 0, none⟩) n n, rfl, by have := hr.1; simp at this; omega, hcc, fun i v hv => by simpa using hget hr i v hv, fun w dst ty pos after guard => ?_, fun ρ' b hb => ?_⟩
    · have hle' : ¬ (16777216 < n * i.size) := by rw [hzl] at hle; omega
      have hf2 : Instr.fill (fun j => some (j * i.size, i.size)) ((Array.range (n * i.size)).map (fun j => zv.cells[j % zv.cells.size]!)) (ps.toList.map fun p => (p.1, ev' p.2)) = some out' := by rw [← hf', hzl]
      have hsize : ∀ w, (sizeOf el).run P w = .ok i.size w := fun w => by simp [sizeOf, typeInfo, hi]
      by_cases h0 : n * i.size = 0
      · obtain rfl : n = 0 := by rcases Nat.mul_eq_zero.1 h0 with h | h <;> omega
        have hr0 : Array.range 0 = #[] := rfl
        simp only [Nat.zero_mul, hr0, List.map_toArray, List.map_nil] at hf2
        simp only [execOp, Sem.run_bind, Instr.buildSlice, run_und hu, Result.andThen_ok, hsize, hparts, Nat.zero_mul, if_true, Sem.run_pure, hr0, List.map_toArray, List.map_nil, hf2]
        simp [newRow]
      · simp only [execOp, Sem.run_bind, Instr.buildSlice, run_und hu, Result.andThen_ok, hsize, Sem.run_ite, hparts]
        simp only [Nat.reducePow, gt_iff_lt, hle', if_false, h0, Sem.run_bind, run_zero hi hzv, Sem.run_pure, Result.andThen_ok, hf2]
        simp [newRow]
    · rw [hzl]
      have hco : out'.size = n * i.size := by have := hr.1; simp at this; omega
      have := VRel.slice (off := 0) (n := n) (c := i.size) (cap := n) hb rfl (Nat.le_refl n) (by simp; omega)
      simpa using this
  · have hl0 := hops l (by simp [Op.operands])
    have hc0 := hops c (by simp [Op.operands])
    simp only [compileOp] at hc
    split at hc <;> try cases hc
    rename_i el hu
    split at hc <;> try cases hc
    rename_i i z hi hz
    obtain ⟨i', zv, hi', hzv, hna, hva, hsz, hpos, rfl⟩ := zero_of hz
    obtain rfl : i = i' := by rw [hi] at hi'; exact Option.some.inj hi'
    obtain ⟨hl, hcel⟩ := noAddr_cells hna hva ρ
    simp only [stepOp] at hs
    split at hs <;> try cases hs
    rename_i a b hle hce
    split at hs <;> try cases hs
    rename_i hcond
    obtain ⟨ha, hab, hb, hby⟩ := hcond
    rw [hle] at hl0
    rw [hce] at hc0
    have hl1 := hl0.int_inv
    have hc1 := hc0.int_inv
    have hzl : zv.cells.toList.length = i.size := by simpa using hsz
    unfold roomCells at hb
    refine ⟨repL zv.cells.toList a.toNat, (Array.range (b.toNat * i.size)).map (fun j => zv.cells[j % zv.cells.size]!), el, i.size, fun k => .slice (some ⟨k, 0, none⟩) a.toNat b.toNat, rfl, ?_, ?_, fun j v hv => ?_, fun w dst ty pos after guard => ?_, fun ρ' k hk => ?_⟩
    · rw [repL_length, hzl]
      simp only [Array.size_map, Array.size_range]
      exact Nat.mul_le_mul_right _ (by omega)
    · intro v hv
      obtain ⟨j, hj, rfl⟩ := List.getElem_of_mem hv
      have : (repL zv.cells.toList a.toNat)[j]? = some (repL zv.cells.toList a.toNat)[j] := by simp [hj]
      rw [repL_get _ _ _ (by rw [repL_length] at hj; exact hj)] at this
      exact hcel _ (List.mem_of_getElem? this)
    · have hj : j < a.toNat * i.size := by have := (List.getElem?_eq_some_iff.1 hv).1; rw [repL_length, hzl] at this; exact this
      rw [repL_get _ _ _ (by rw [hzl]; exact hj)] at hv
      obtain ⟨v', h1, h2⟩ := hl.2 _ v hv
      refine ⟨v', ?_, h2⟩
      have hab' : a.toNat * i.size ≤ b.toNat * i.size := Nat.mul_le_mul_right _ (by omega)
      have := rep_cells zv (b.toNat * i.size) (by omega) j (by omega)
      rw [h1] at this
      exact this
    · have w1 : IntKind.i64.wrap a = a := by unfold IntKind.wrap; simp [IntKind.bits, IntKind.signed]; omega
      have w2 : IntKind.i64.wrap b = b := by unfold IntKind.wrap; simp [IntKind.bits, IntKind.signed]; omega
      have hsize : ∀ w, (sizeOf el).run P w = .ok i.size w := fun w => by simp [sizeOf, typeInfo, hi]
      have hbb : (i.bytes : Int) * b ≤ 4096 * 4294967296 := by
        have h1 : (i.bytes : Int) ≤ 4096 := by omega
        exact Int.mul_le_mul h1 hb (by omega) (by omega)
      have t1 : ¬ ((i.bytes : Int) * b > 2 ^ 48) := by omega
      have hrun : (Instr.makeSlice t (ev' l) (ev' c)).run P w = .ok (.slice (some ⟨w.heap.size, 0, none⟩) a.toNat b.toNat) { w with heap := w.heap.push (.cells ((Array.range (b.toNat * i.size)).map (fun j => zv.cells[j % zv.cells.size]!)) el) } := by
        have hti : ∀ w, (typeInfo el).run P w = .ok i w := fun w => by simp [typeInfo, hi]
        have hcnd : (decide (b < 0) || decide ((i.bytes : Int) * b > 2 ^ 48) || decide (a < 0) || decide (a > b)) = false := by
          simp only [Bool.or_eq_false_iff, decide_eq_false_iff_not]
          omega
        simp only [Instr.makeSlice, Sem.run_bind, run_und hu, Result.andThen_ok, asInt, asIntOf, hl1, hc1, Sem.run_pure, hti, w1, w2, hcnd, Bool.false_eq_true, if_false, run_askRoom, hsize]
        by_cases h0 : b.toNat * i.size = 0
        · have hr0 : Array.range 0 = #[] := rfl
          simp [h0, hr0, newRow]
        · simp [h0, run_zero hi hzv, newRow]
      simp only [execOp, Sem.run_bind, hrun, Result.andThen_ok, Sem.run_pure]
    · have := VRel.slice (off := 0) (n := a.toNat) (c := i.size) (cap := b.toNat) hk rfl (by omega) (by simp)
      simpa using this

/-- What append does. -/
theorem run_append {t u el : TypeId} {i : TypeInfo} {z : Value} (hu : P.underlying t = some (.slice el)) (hi : P.info? el = some i) (hz : i.zero = some z) (hux : P.underlying u = some .string ∨ ∃ el', P.underlying u = some (.slice el'))
    {y' : Value} {n : Nat} {new' : List Value} (hn : ∀ w2, (Builtin.lenOf y').run P w2 = .ok n w2) (w : World) (hnew : ∀ w2 : World, w2.heap = w.heap → (Builtin.firstCells i.size n y').run P w2 = .ok new'.toArray w2) (ty : TypeId) :
    (∀ (ad : Addr) (sLen sCap : Nat) (w' : World), sLen + n ≤ sCap → (storeCells (ad.add (sLen * i.size)) new' 0).run P w = .ok () w' →
      (Builtin.append_ #[t, u] ty #[.slice (some ad) sLen sCap, y']).run P w = .ok (.slice (some ad) (sLen + n) sCap) w') ∧
    (n = 0 → (Builtin.append_ #[t, u] ty #[.slice none 0 0, y']).run P w = .ok (.slice none 0 0) w) ∧
    (∀ (base : Option Addr) (sLen sCap : Nat) (old' : List Value), sCap < sLen + n → sLen + n ≤ roomCells → i.bytes ≤ 4096 → (∀ w2 : World, w2.heap = w.heap → (Builtin.firstCells i.size sLen (.slice base sLen sCap)).run P w2 = .ok old'.toArray w2) →
      (Builtin.append_ #[t, u] ty #[.slice base sLen sCap, y']).run P w =
        .ok (.slice (some ⟨w.heap.size, 0, none⟩) (sLen + n) (grownCap w (sLen + n) sCap el))
          (w.drew.alloc (.cells ((old' ++ new').toArray ++ Builtin.zeroCells z.cells (grownCap w (sLen + n) sCap el - (sLen + n))) el))) := by
  have hsize : ∀ w, (sizeOf el).run P w = .ok i.size w := fun w => by simp [sizeOf, typeInfo, hi]
  have hti : ∀ w, (typeInfo el).run P w = .ok i w := fun w => by simp [typeInfo, hi]
  have hzr : ∀ w, (zeroValue el).run P w = .ok z w := run_zero hi hz
  have key : ∀ d : TypeDesc, (d = .string ∨ ∃ el', d = .slice el') → (∀ w, (underlying u).run P w = .ok d w) →
    (∀ (ad : Addr) (sLen sCap : Nat) (w' : World), sLen + n ≤ sCap → (storeCells (ad.add (sLen * i.size)) new' 0).run P w = .ok () w' →
      (Builtin.append_ #[t, u] ty #[.slice (some ad) sLen sCap, y']).run P w = .ok (.slice (some ad) (sLen + n) sCap) w') ∧
    (n = 0 → (Builtin.append_ #[t, u] ty #[.slice none 0 0, y']).run P w = .ok (.slice none 0 0) w) ∧
    (∀ (base : Option Addr) (sLen sCap : Nat) (old' : List Value), sCap < sLen + n → sLen + n ≤ roomCells → i.bytes ≤ 4096 → (∀ w2 : World, w2.heap = w.heap → (Builtin.firstCells i.size sLen (.slice base sLen sCap)).run P w2 = .ok old'.toArray w2) →
      (Builtin.append_ #[t, u] ty #[.slice base sLen sCap, y']).run P w =
        .ok (.slice (some ⟨w.heap.size, 0, none⟩) (sLen + n) (grownCap w (sLen + n) sCap el))
          (w.drew.alloc (.cells ((old' ++ new').toArray ++ Builtin.zeroCells z.cells (grownCap w (sLen + n) sCap el - (sLen + n))) el))) := by
    intro d hd hd'
    refine ⟨fun ad sLen sCap w' hroom hst => ?_, fun hn0 => ?_, fun base sLen sCap old' hgt hle hby hold => ?_⟩
    · rcases hd with rfl | ⟨el', rfl⟩ <;> simp [Builtin.append_, run_und hu, hsize, hd', hn, hroom, hnew w rfl, hst]
    · subst hn0
      have := hnew w rfl
      rcases hd with rfl | ⟨el', rfl⟩ <;> simp [Builtin.append_, run_und hu, hsize, hd', hn, this]
    · have hnr : ¬ (sLen + n ≤ sCap) := by omega
      unfold roomCells at hle
      have h63' : ¬ (9223372036854775807 < ((sLen : Int) + (n : Int))) := by omega
      have hb : (sLen + n) * i.bytes ≤ 140737488355328 := by
        have := Nat.mul_le_mul hle hby
        omega
      have h48 := growslice_fits hgt hb
      have h48' : ¬ (281474976710656 < Builtin.nextslicecap (sLen + n) sCap * i.bytes) := by omega
      have hnd := hnew w.drew rfl
      have hod := hold w.drew rfl
      rcases hd with rfl | ⟨el', rfl⟩ <;> simp [Builtin.append_, run_und hu, hsize, hti, hzr, hd', hn, hnr, h63', h48', Question.forced, hnd, hod, newRow, grownCap] <;> rw [← Array.append_assoc] <;> simp
  rcases hux with h | ⟨el', h⟩
  · exact key _ (.inl rfl) (run_und h)
  · exact key _ (.inr ⟨el', rfl⟩) (run_und h)

theorem newP_self (ρ : PMap) (id : Nat) (p : Place) : newP ρ id p id = some p := by simp [newP]

theorem VRel.slice0 {id n m c cap b base ext : Nat} (hh : ρ id = some ⟨b, base, ext, c⟩) (hm : m = n) (hn : n ≤ cap) (hc : cap * c ≤ ext) : VRel ρ (.slice (some ⟨id, 0, none⟩) n c) (.slice (some ⟨b, base, none⟩) m cap) := by
  subst hm
  have := VRel.slice (off := 0) (n := m) (c := c) (cap := cap) hh rfl hn (by simpa using hc)
  simpa using this

/-- A value holds no address that is not there. -/
theorem LRel.newP {l l' : List Value} (hl : LRel ρ l l') {id : Nat} {p : Place} (hf : ρ id = none) : LRel (newP ρ id p) l l' := hl.mono (newP_le hf)

/-- **APPEND.** -/
theorem simAppend {t u el : TypeId} {i : TypeInfo} {z : List Value} {bytes : Nat} (hu : P.underlying t = some (.slice el)) (hi : P.info? el = some i) (hz : zeroCells P el = some z) (hby : i.bytes = bytes)
    (hux : P.underlying u = some .string ∨ ∃ el', P.underlying u = some (.slice el')) (hr : Rel ρ (view h) w) {x x' y y' : Value} (hx : VRel ρ x x') (hy : VRel ρ y y') {v : Value} {h' : Heap}
    (hs : appendV h i.size bytes x y = some (v, h')) (hf : Fresh ρ h.length h'.length) (ty : TypeId) :
    ∃ v' w' ρ', (Builtin.append_ #[t, u] ty #[x', y']).run P w = .ok v' w' ∧ Rel ρ' (view h') w' ∧ Ev ρ (view h) w ρ' (view h') w' ∧ PSame ρ ρ' h.length h'.length ∧ VRel ρ' v v' ∧ h.length ≤ h'.length := by
  subst hby
  obtain ⟨i', zv, hi', hzv, hna, hva, hsz, hpos, rfl⟩ := zero_of hz
  obtain rfl : i = i' := by rw [hi] at hi'; exact Option.some.inj hi'
  simp only [appendV] at hs
  split at hs <;> try cases hs
  rename_i n hn
  split at hs <;> try cases hs
  rename_i new hnew
  obtain ⟨new', hn1, hn2, hn3, hn4⟩ := firstC_run (P := P) hr hy hnew
  have hlen : ∀ w2, (Builtin.lenOf y').run P w2 = .ok n w2 := by
    intro w2
    generalize y' = q at hy
    cases hy <;> simp only [lenV] at hn <;> try (cases hn; done)
    all_goals (injection hn with hn; subst hn; rfl)
  obtain ⟨a1, a2, a3⟩ := run_append (P := P) hu hi hzv hux hlen w hn1 ty
  have hnl : new.length = n * i.size := by rw [hn2.1, hn4]
  cases hx with
  | nilS =>
    simp only at hs
    split at hs
    · rename_i hn0
      injection hs with hs; injection hs with h1 h2
      subst h1; subst h2
      exact ⟨_, _, ρ, a2 hn0, hr, Ev.refl _ _ _, PSame.refl _ _ _, .nilS, Nat.le_refl _⟩
    · split at hs <;> try cases hs
      rename_i hn0 hcond
      have hrun := a3 none 0 0 [] (by omega) (by omega) hcond.2 (fun w2 _ => by simp [Builtin.firstCells])
      have hge := grownCap_ge w (0 + n) 0 el
      simp only [List.nil_append] at hrun
      have hfr : ρ h.length = none := hf h.length (Nat.le_refl _) (by simp)
      have hcs : (new'.toArray ++ Builtin.zeroCells zv.cells (grownCap w (0 + n) 0 el - (0 + n))).size = grownCap w (0 + n) 0 el * i.size := by
        simp only [Array.size_append, List.size_toArray, size_zeroCells, hsz, hn4, ← Nat.add_mul]
        congr 1; omega
      obtain ⟨r1, r2⟩ := rel_new (w := w.drew) hr.drew hfr (new'.toArray ++ Builtin.zeroCells zv.cells (grownCap w (0 + n) 0 el - (0 + n))) el i.size (cells := new)
        (by rw [hcs, hnl]; exact Nat.mul_le_mul_right _ (by omega)) hn3 (fun j v hv => by
          obtain ⟨v', h1, h2⟩ := hn2.2 j v hv
          refine ⟨v', ?_, h2⟩
          have hj : j < new'.length := (List.getElem?_eq_some_iff.1 h1).1
          rw [Array.getElem?_append_left (by simpa using hj)]
          simpa using h1)
      refine ⟨_, _, _, hrun, r1, (Ev.drew ρ (view h) w).trans r2, by simpa using newP_same ρ h.length _, ?_, by simp⟩
      exact VRel.slice0 (newP_self ρ h.length _) (by omega) (by omega) (by rw [hcs]; exact Nat.le_refl _)
  | @slice id off len c cap p hp hz hle hc =>
    simp only at hs
    split at hs <;> try cases hs
    rename_i b hb
    split at hs <;> try cases hs
    rename_i hcond
    obtain ⟨hro, hce, hfit, hroom, hbyt⟩ := hcond
    have hidl := view_lt (view_blk hb)
    have hfr : ρ h.length = none := hf h.length (Nat.le_refl _) (by simp)
    have hpz : p.esz = i.size := by rw [hz, hce]
    obtain ⟨cs', o1, o2, o3, o4⟩ := (hr.blk id b (view_blk hb)).part off (len * i.size) hfit hp
    by_cases hrm : len + n ≤ cap
    · have hext : off + cap * i.size ≤ p.ext := by rw [← hpz]; exact hc
      have hcap : (len + n) * i.size ≤ cap * i.size := Nat.mul_le_mul_right _ hrm
      rw [Nat.add_mul] at hcap
      obtain ⟨r1, r2⟩ := rel_adopt hr hfr hb hro hp off (len * i.size) (p.ext - off) (by omega) (by omega)
      have hbnew : blk? (h.set id none ++ [some ⟨false, (b.cells.drop off).take (len * i.size)⟩]) h.length = some ⟨false, (b.cells.drop off).take (len * i.size)⟩ := by
        have := view_push (h.set id none) ⟨false, (b.cells.drop off).take (len * i.size)⟩ h.length
        rw [if_pos (by simp)] at this
        exact this
      have hol : ((b.cells.drop off).take (len * i.size)).length = len * i.size := by simp; omega
      obtain ⟨w', s1, s2, s3⟩ := rel_put r1 hbnew rfl (newP_self ρ h.length _) (len * i.size) (vs := new) (vs' := new') (by simp only [hnl]; omega) (hn2.newP hfr) hn3 ((b.cells.drop off).take (len * i.size) ++ new)
        (by simp only [List.length_append, hol, hnl]; omega) (fun k v hk => by
          by_cases hkl : k < len * i.size
          · rw [List.getElem?_append_left (by rw [hol]; exact hkl)] at hk
            exact .inr ⟨.inl hkl, hk⟩
          · rw [List.getElem?_append_right (by rw [hol]; omega), hol] at hk
            exact .inl ⟨by omega, hk⟩)
      have hset : (h.set id none ++ [some (⟨false, (b.cells.drop off).take (len * i.size)⟩ : Blk)]).set h.length (some (⟨false, (b.cells.drop off).take (len * i.size) ++ new⟩ : Blk)) =
          h.set id none ++ [some (⟨false, (b.cells.drop off).take (len * i.size) ++ new⟩ : Blk)] := by
        rw [List.set_append_right _ _ (by simp)]
        simp
      rw [hset] at s2 s3
      have hrun := a1 ⟨p.b, p.base + off, none⟩ len cap w' hrm (by rw [addr_add]; exact s1 P)
      refine ⟨_, _, _, hrun, s2, r2.trans s3, by simpa using newP_same ρ h.length _, ?_, by simp⟩
      refine VRel.slice0 (ext := p.ext - off) ?_ rfl hrm (by omega)
      rw [← hpz]
      exact newP_self ρ h.length _
    · have hold : ∀ w2 : World, w2.heap = w.heap → (Builtin.firstCells i.size len (.slice (some ⟨p.b, p.base + off, none⟩) len cap)).run P w2 = .ok cs'.toArray w2 := by
        intro w2 hw2
        refine run_firstCells_some (P := P) w2 i.size len _ len cap cs' o3 (fun j v hv => ?_)
        have := o4 j v hv
        unfold World.cell? at this ⊢
        rw [hw2]; exact this
      have hrun := a3 (some ⟨p.b, p.base + off, none⟩) len cap cs' (by omega) hroom hbyt hold
      have hge := grownCap_ge w (len + n) cap el
      obtain ⟨k1, k2⟩ := rel_kill hr hidl
      have hfr' : ρ (h.set id none).length = none := by simpa using hfr
      have hll : (cs' ++ new').length = (len + n) * i.size := by simp only [List.length_append, o3, hn4, ← Nat.add_mul]
      have hcs : ((cs' ++ new').toArray ++ Builtin.zeroCells zv.cells (grownCap w (len + n) cap el - (len + n))).size = grownCap w (len + n) cap el * i.size := by
        simp only [Array.size_append, List.size_toArray, size_zeroCells, hsz, hll, ← Nat.add_mul]
        congr 1; omega
      obtain ⟨r1, r2⟩ := rel_new (w := w.drew) k1.drew hfr' ((cs' ++ new').toArray ++ Builtin.zeroCells zv.cells (grownCap w (len + n) cap el - (len + n))) el i.size (cells := (b.cells.drop off).take (len * i.size) ++ new)
        (by rw [hcs, (o1.append hn2).1, hll]; exact Nat.mul_le_mul_right _ (by omega))
        (fun v hv => (List.mem_append.1 hv).elim (o2 v) (hn3 v)) (fun j v hv => by
          obtain ⟨v', h1, h2⟩ := (o1.append hn2).2 j v hv
          refine ⟨v', ?_, h2⟩
          have hj : j < (cs' ++ new').length := (List.getElem?_eq_some_iff.1 h1).1
          rw [Array.getElem?_append_left (by simpa using hj)]
          simpa using h1)
      refine ⟨_, _, _, hrun, r1, (k2.trans (Ev.drew ρ _ w)).trans r2, by simpa using newP_same ρ (h.set id none).length _, ?_, by simp⟩
      have hlen' : h.length = (h.set id none).length := by simp
      rw [show (⟨h.length, 0, none⟩ : Addr) = ⟨(h.set id none).length, 0, none⟩ by rw [← hlen']]
      exact VRel.slice0 (newP_self ρ (h.set id none).length _) rfl hge (by rw [hcs]; exact Nat.le_refl _)
  | @sliceE id off c p a hp =>
    simp only at hs
    split at hs <;> try cases hs
    rename_i b hb
    split at hs <;> try cases hs
    rename_i hcond
    obtain ⟨hro, hce, hfit, hroom, hbyt⟩ := hcond
    have hidl := view_lt (view_blk hb)
    have hfr : ρ h.length = none := hf h.length (Nat.le_refl _) (by simp)
    by_cases hn0 : n = 0
    · subst hn0
      obtain rfl : new = [] := List.eq_nil_of_length_eq_zero (by simpa using hnl)
      have hnl' : new' = [] := List.eq_nil_of_length_eq_zero (by simpa using hn4)
      subst hnl'
      obtain ⟨p0, c0, t0, f0, q1, q2, q3, q4, _⟩ := hr.blk id b (view_blk hb)
      have : p0 = p := by rw [q1] at hp; exact Option.some.inj hp
      subst this
      obtain ⟨r1, r2⟩ := rel_adopt hr hfr hb hro hp off 0 0 (by omega) (by omega)
      have hrun := a1 a 0 0 w (by omega) (by simp [storeCells])
      refine ⟨_, _, _, hrun, by simpa using r1, by simpa using r2, by simpa using newP_same ρ h.length _, ?_, by simp⟩
      have := VRel.sliceE (off := 0) (c := i.size) (a := a) (newP_self ρ h.length ⟨p0.b, p0.base + off, 0, p0.esz⟩)
      simpa using this
    · have hrun := a3 (some a) 0 0 [] (by omega) hroom hbyt (fun w2 _ => by simp [Builtin.firstCells, loadCells, loadCellsFrom])
      have hge := grownCap_ge w (0 + n) 0 el
      simp only [List.nil_append] at hrun
      obtain ⟨k1, k2⟩ := rel_kill hr hidl
      have hfr' : ρ (h.set id none).length = none := by simpa using hfr
      have hcs : (new'.toArray ++ Builtin.zeroCells zv.cells (grownCap w (0 + n) 0 el - (0 + n))).size = grownCap w (0 + n) 0 el * i.size := by
        simp only [Array.size_append, List.size_toArray, size_zeroCells, hsz, hn4, ← Nat.add_mul]
        congr 1; omega
      obtain ⟨r1, r2⟩ := rel_new (w := w.drew) k1.drew hfr' (new'.toArray ++ Builtin.zeroCells zv.cells (grownCap w (0 + n) 0 el - (0 + n))) el i.size (cells := new)
        (by rw [hcs, hnl]; exact Nat.mul_le_mul_right _ (by omega)) hn3 (fun j v hv => by
          obtain ⟨v', h1, h2⟩ := hn2.2 j v hv
          refine ⟨v', ?_, h2⟩
          have hj : j < new'.length := (List.getElem?_eq_some_iff.1 h1).1
          rw [Array.getElem?_append_left (by simpa using hj)]
          simpa using h1)
      have hz0 : (b.cells.drop off).take (0 * i.size) ++ new = new := by simp
      rw [hz0]
      refine ⟨_, _, _, hrun, r1, (k2.trans (Ev.drew ρ _ w)).trans r2, by simpa using newP_same ρ (h.set id none).length _, ?_, by simp⟩
      have hlen' : h.length = (h.set id none).length := by simp
      rw [show (⟨h.length, 0, none⟩ : Addr) = ⟨(h.set id none).length, 0, none⟩ by rw [← hlen']]
      exact VRel.slice0 (newP_self ρ (h.set id none).length _) rfl hge (by rw [hcs]; exact Nat.le_refl _)
  | _ => simp at hs

/-- **COPY.** -/
theorem simCopy {t u el : TypeId} {i : TypeInfo} (hu : P.underlying t = some (.slice el)) (hi : P.info? el = some i)
    (hr : Rel ρ (view h) w) {x x' y y' : Value} (hx : VRel ρ x x') (hy : VRel ρ y y') {v : Value} {h' : Heap}
    (hs : copyV h i.size x y = some (v, h')) (ty : TypeId) :
    ∃ w', (Builtin.copy_ #[t, u] ty #[x', y']).run P w = .ok v w' ∧ Rel ρ (view h') w' ∧ Ev ρ (view h) w ρ (view h') w' ∧ VRel ρ v v ∧ h.length = h'.length := by
  have hsize : ∀ w, (sizeOf el).run P w = .ok i.size w := fun w => by simp [sizeOf, typeInfo, hi]
  unfold copyV at hs
  split at hs <;> try cases hs
  rename_i a dlen c
  split at hs <;> try cases hs
  rename_i sl hsl
  split at hs <;> try cases hs
  rename_i new hnew
  obtain ⟨new', hn1, hn2, hn3, hn4⟩ := firstC_run (P := P) hr hy hnew
  have hlen : ∀ w2, (Builtin.lenOf y').run P w2 = .ok sl w2 := by
    intro w2
    generalize y' = q at hy
    cases hy <;> simp only [lenV] at hsl <;> try (cases hsl; done)
    all_goals (injection hsl with hsl; subst hsl; rfl)
  have hnl : new.length = Nat.min sl dlen * i.size := by rw [hn2.1, hn4]
  have hrun : ∀ (base : Option Addr) (cap : Nat) (w' : World), (match base with | some ad => (storeCells ad new').run P w = .ok () w' | none => w' = w) →
      (Builtin.copy_ #[t, u] ty #[.slice base dlen cap, y']).run P w = .ok (goInt (Nat.min sl dlen)) w' := by
    intro base cap w' hst
    cases base with
    | none => simp only at hst; subst hst; simp [Builtin.copy_, run_und hu, hsize, hlen, hn1 w' rfl]
    | some ad => simp only at hst; simp [Builtin.copy_, run_und hu, hsize, hlen, hn1 w rfl, hst]
  cases hx with
  | nilS =>
    simp only [if_true] at hs
    injection hs with hs; injection hs with h1 h2
    subst h1; subst h2
    exact ⟨w, hrun none 0 w rfl, hr, Ev.refl _ _ _, .int _ _, rfl⟩
  | @slice id off len c cap p hp hz hle hc =>
    simp only at hs
    split at hs <;> try cases hs
    rename_i b hb
    split at hs <;> try cases hs
    rename_i hcond
    obtain ⟨w', s1, s2, s3⟩ := rel_write hr hb hcond.1 hp off (vs := new) (vs' := new') (by rw [hnl]; exact hcond.2) hn2 hn3
    exact ⟨w', hrun (some _) cap w' (s1 P), s2, s3, .int _ _, by simp⟩
  | @sliceE id off c p a hp =>
    simp only at hs
    split at hs <;> try cases hs
    rename_i b hb
    split at hs <;> try cases hs
    rename_i hcond
    have hm : Nat.min sl 0 = 0 := by simp
    obtain rfl : new = [] := List.eq_nil_of_length_eq_zero (by rw [hnl, hm]; simp)
    have hnl' : new' = [] := List.eq_nil_of_length_eq_zero (by have := hn2.1; simpa using this.symm)
    subst hnl'
    have hset : h.set id (some { b with cells := writeAt b.cells off [] }) = h := by
      simp only [writeAt]
      apply List.ext_getElem?
      intro k
      rw [List.getElem?_set]
      split
      · rename_i e; subst e
        unfold blk? at hb
        split at hb <;> try cases hb
        rename_i hk
        rw [if_pos (List.getElem?_eq_some_iff.1 hk).1, hk]
      · rfl
    rw [hset]
    exact ⟨w, hrun (some a) 0 w (by simp [storeCells]), hr, Ev.refl _ _ _, .int _ _, rfl⟩

/-- **AN OPERATION THAT WRITES.** -/
theorem simW {op : Op} {rop : ROp} (hc : compileOp P op = some rop) (hcls : rop.cls = .W) (hnc : ∀ f args, rop ≠ .call f args) (hr : Rel ρ (view h) w) (hops : ∀ x ∈ op.operands, VRel ρ (ev e x) (ev' x)) {v : Value} {h' : Heap} (hs : stepOp rop e h = some (v, h')) (hf : Fresh ρ h.length h'.length) :
    ∃ v' w' ρ', (∀ (dst : Option Tmp) (ty : TypeId) (pos : String) (after : Array Edge) (guard : Option (Nat × Bool)),
        (execOp ev' { dst, op, type := ty, pos, after, guard }).run P w = .ok (.value v') w' ∨ ((execOp ev' { dst, op, type := ty, pos, after, guard }).run P w = .ok .skip w' ∧ v' = undef)) ∧
      Rel ρ' (view h') w' ∧ Ev ρ (view h) w ρ' (view h') w' ∧ PSame ρ ρ' h.length h'.length ∧ VRel ρ' v v' ∧ h.length ≤ h'.length := by
  rcases (cls_of hc).2.2 hcls with ⟨t, a, x, rfl⟩ | ⟨c, rfl⟩
  · have ha := hops a (by simp [Op.operands])
    have hx := hops x (by simp [Op.operands])
    simp only [compileOp] at hc
    split at hc <;> try cases hc
    rename_i n hn
    simp only [stepOp] at hs
    split at hs <;> try cases hs
    rename_i hst
    obtain ⟨ad, w', hae, hsz, hrun, r1, r2, hl⟩ := rel_store hr ha hx hst
    refine ⟨undef, w', ρ, fun dst ty pos after guard => .inr ⟨?_, rfl⟩, r1, r2, PSame.refl _ _ _, noAddr_self ρ undef rfl, by omega⟩
    simp [execOp, Instr.storeAt, hae, Instr.sureAddr, storeVar, size_of hn, hsz, hrun P]
  · rcases compileCall_inv hc with ⟨f, args, tys, rfl, _, rfl⟩ | ⟨x, t, rfl, ⟨hu, rfl⟩ | ⟨⟨el, hu⟩, rfl⟩⟩ | ⟨x, xs, tys, rfl, rfl⟩ | ⟨x, xs, tys, rfl, rfl⟩ | ⟨x, y, t, u, el, i, z, rfl, hu, hi, hz, hux, rfl⟩ | ⟨x, y, t, u, el, i, rfl, hu, hi, rfl⟩
    · exact absurd rfl (hnc _ _)
    · simp [ROp.cls] at hcls
    · simp [ROp.cls] at hcls
    · simp [ROp.cls] at hcls
    · simp [ROp.cls] at hcls
    · have hx := hops x (by simp [Op.operands, Call.operands])
      have hy := hops y (by simp [Op.operands, Call.operands])
      simp only [stepOp] at hs
      obtain ⟨v', w', ρ', h1, h2, h3, h4, h5, h6⟩ := simAppend hu hi hz rfl hux hr hx hy hs hf 0
      refine ⟨v', w', ρ', fun dst ty pos after guard => .inl ?_, h2, h3, h4, h5, h6⟩
      obtain ⟨cs, he⟩ := exec_builtin (ev' := ev') .append #[x, y] #[t, u] dst ty pos after guard
      rw [he]
      have h1' : (Builtin.append_ #[t, u] ty #[ev' x, ev' y]).run P w = .ok v' w' := h1
      simp [builtin, h1']
    · have hx := hops x (by simp [Op.operands, Call.operands])
      have hy := hops y (by simp [Op.operands, Call.operands])
      simp only [stepOp] at hs
      obtain ⟨w', h1, h2, h3, h4, h5⟩ := simCopy (u := u) hu hi hr hx hy hs 0
      refine ⟨v, w', ρ, fun dst ty pos after guard => .inl ?_, h2, h3, PSame.refl _ _ _, h4, by omega⟩
      obtain ⟨cs, he⟩ := exec_builtin (ev' := ev') .copy #[x, y] #[t, u] dst ty pos after guard
      rw [he]
      have h1' : (Builtin.copy_ #[t, u] ty #[ev' x, ev' y]).run P w = .ok v w' := h1
      simp [builtin, h1']
end
end Go.Sim
