/-
  An operation that writes nothing does in the program what it does in the evaluator.
-/
import Derived.Test.YtlflfkdnpalhlaaSimD
namespace Go.Sim
open Go.RowKit

section
variable {P : Program} {ρ : PMap} {w : World} {e : Env} {ev' : Operand → Value} {h : Heap}

theorem zero_of {t : TypeId} {l : List Value} (hz : zeroCells P t = some l) :
    ∃ i z, P.info? t = some i ∧ i.zero = some z ∧ noAddr z = true ∧ isVar z = true ∧ z.cells.size = i.size ∧ 0 < i.size ∧ l = z.cells.toList := by
  unfold zeroCells at hz
  split at hz <;> try cases hz
  rename_i i hi
  split at hz <;> try cases hz
  rename_i z hzz
  split at hz <;> try cases hz
  rename_i hc
  exact ⟨i, z, hi, hzz, hc.1, hc.2.1, hc.2.2.1, hc.2.2.2, rfl⟩
theorem run_zero {t : TypeId} {i : TypeInfo} {z : Value} (hi : P.info? t = some i) (hz : i.zero = some z) (w : World) : (zeroValue t).run P w = .ok z w := by
  simp [zeroValue, typeInfo, hi, hz]

theorem noAddr_cells {z : Value} (hn : noAddr z = true) (hv : Sim.isVar z = true) (ρ : PMap) : LRel ρ z.cells.toList z.cells.toList ∧ ∀ v ∈ z.cells.toList, Sim.isCell v = true :=
  ⟨(noAddr_self ρ z hn).cells, (noAddr_self ρ z hn).cellsOk hv⟩

theorem foldl_set (vs : List Value) : ∀ (off k : Nat) (cs : Array Value), ((vs.zipIdx k).foldl (fun (cs : Array Value) x => cs.setIfInBounds (off + x.2) x.1) cs).toList = writeAt cs.toList (off + k) vs := by
  induction vs with
  | nil => intro off k cs; simp [writeAt]
  | cons v vs ih =>
    intro off k cs
    rw [List.zipIdx_cons, List.foldl_cons, ih off (k + 1)]
    simp [writeAt, Nat.add_assoc]

theorem fill_rel (place : Nat → Option (Nat × Nat)) : ∀ (parts : List (Nat × Value)) (parts' : List (Nat × Value)) (cells : List Value) (cells' : Array Value) (out : List Value),
    parts.length = parts'.length → (∀ (i : Nat) p, parts[i]? = some p → ∃ p', parts'[i]? = some p' ∧ p'.1 = p.1 ∧ VRel ρ p.2 p'.2) → LRel ρ cells cells'.toList → (∀ v ∈ cells, Sim.isCell v = true) → fillL place cells parts = some out →
    ∃ out', Instr.fill place cells' parts' = some out' ∧ LRel ρ out out'.toList ∧ (∀ v ∈ out, Sim.isCell v = true)
  | [], [], cells, cells', out, _, _, hr, hc, hf => by
    simp [fillL] at hf; subst hf
    exact ⟨cells', rfl, hr, hc⟩
  | [], _ :: _, _, _, _, hl, _, _, _, _ => by simp at hl
  | _ :: _, [], _, _, _, hl, _, _, _, _ => by simp at hl
  | (i, v) :: r, (i', v') :: r', cells, cells', out, hl, hp, hr, hc, hf => by
    obtain ⟨p', h1, h2, h3⟩ := hp 0 (i, v) rfl
    simp at h1; subst h1
    simp at h2; subst h2
    simp only [fillL] at hf
    cases hpl : place i' with
    | none => rw [hpl] at hf; cases hf
    | some os =>
      obtain ⟨off, size⟩ := os
      rw [hpl] at hf
      simp only at hf
      split at hf
      · rename_i hcond
        obtain ⟨hv, hsz, hfit⟩ := hcond
        have hsz' : v'.cells.size = size := by have := h3.cells.1; simp at this; omega
        have hlen : cells'.size = cells.length := by have := hr.1; simpa using this.symm
        simp only [Instr.fill, hpl]
        rw [if_neg (by simp [hsz']; omega)]
        refine fill_rel place r r' _ _ out (by simpa using hl) (fun j p hj => by simpa using hp (j + 1) p (by simpa using hj)) ?_ ?_ hf
        · have e1 : (Array.foldl (fun (cs : Array Value) x => cs.setIfInBounds (off + x.2) x.1) cells' v'.cells.zipIdx).toList = writeAt cells'.toList off v'.cells.toList := by
            rw [← Array.foldl_toList, Array.toList_zipIdx]
            exact foldl_set v'.cells.toList off 0 cells'
          rw [e1]
          exact LRel.writeAt off hr h3.cells
        · exact writeAt_cells _ _ _ hc (h3.cellsOk hv)
      · cases hf

theorem parts_rel {parts : List (Nat × Operand)} (hops : ∀ p ∈ parts, VRel ρ (ev e p.2) (ev' p.2)) :
    (parts.map fun p => (p.1, ev e p.2)).length = (parts.map fun p => (p.1, ev' p.2)).length ∧
    ∀ (i : Nat) p, (parts.map fun p => (p.1, ev e p.2))[i]? = some p → ∃ p', (parts.map fun p => (p.1, ev' p.2))[i]? = some p' ∧ p'.1 = p.1 ∧ VRel ρ p.2 p'.2 := by
  refine ⟨by simp, fun i p hp => ?_⟩
  rw [List.getElem?_map] at hp
  cases hi : parts[i]? with
  | none => rw [hi] at hp; cases hp
  | some q =>
    rw [hi] at hp
    simp at hp; subst hp
    exact ⟨(q.1, ev' q.2), by rw [List.getElem?_map, hi]; rfl, rfl, hops q (List.mem_of_getElem? hi)⟩

theorem args_rel {l : List Operand} (hops : ∀ x ∈ l, VRel ρ (ev e x) (ev' x)) : LRel ρ (l.map (ev e)) (l.map ev') := by
  refine ⟨by simp, fun i v hv => ?_⟩
  rw [List.getElem?_map] at hv
  cases hi : l[i]? with
  | none => rw [hi] at hv; cases hv
  | some q =>
    rw [hi] at hv
    simp at hv; subst hv
    exact ⟨ev' q, by rw [List.getElem?_map, hi]; rfl, hops q (List.mem_of_getElem? hi)⟩

theorem places_spec : ∀ (fs : List Field) (pl : List (Nat × Nat)), placesOf P fs = some pl → pl.length = fs.length ∧ (fs.mapM fun f => (do pure (f.offset, ← sizeOf f.type) : Sem (Nat × Nat))).run P w = .ok pl w
  | [], pl, h => by simp [placesOf] at h; subst h; simp
  | f :: r, pl, h => by
    simp only [placesOf] at h
    split at h <;> try cases h
    rename_i n l h1 h2
    obtain ⟨a, b⟩ := places_spec r l h2
    refine ⟨by simp [a], ?_⟩
    simp only [List.mapM_cons, Sem.run_bind, size_of h1, Result.andThen_ok, Sem.run_pure, b]

/-- An integer is what it is. -/
theorem VRel.int_inv {k : IntKind} {n : Int} {v' : Value} (hv : VRel ρ (.int k n) v') : v' = .int k n := by cases hv; rfl
theorem VRel.bool_inv {b : Bool} {v' : Value} (hv : VRel ρ (.bool b) v') : v' = .bool b := by cases hv; rfl
theorem VRel.str_inv {b : ByteArray} {v' : Value} (hv : VRel ρ (.string b) v') : v' = .string b := by cases hv; rfl

theorem bnd_run {v v' : Value} {y y' n : Nat} (hv : VRel ρ v v') (hb : bnd v y = some n) (hy : y ≤ y') (code : BoundsCode) (w : World) : (Instr.sliceBound v' y' code).run P w = .ok n w ∧ n ≤ y := by
  cases v <;> simp only [bnd] at hb <;> try cases hb
  case int k i =>
    have := hv.int_inv; subst this
    split at hb <;> try cases hb
    rename_i hi
    refine ⟨?_, by omega⟩
    have h1 : 0 ≤ i ∧ i ≤ (y' : Int) := by omega
    simp only [Instr.sliceBound, asIntOf, Sem.run_bind, Sem.run_pure, Result.andThen_ok]
    rw [if_pos h1]
    rfl

theorem bounds_run (b : Bool) {lo hi lo' hi' : Option Value}
    (hlo : (lo = none ∧ lo' = none) ∨ ∃ a a', lo = some a ∧ lo' = some a' ∧ VRel ρ a a') (hhi : (hi = none ∧ hi' = none) ∨ ∃ a a', hi = some a ∧ hi' = some a' ∧ VRel ρ a a')
    (len cap : Nat) (T l : Nat) (hle : len ≤ cap) (h1 : bndO hi len len = some T) (h2 : bndO lo T 0 = some l) (w : World) :
    (Instr.sliceBounds b len cap lo' hi' none).run P w = .ok (l, T, cap) w ∧ T ≤ len ∧ l ≤ T := by
  rcases hhi with ⟨rfl, rfl⟩ | ⟨a, a', rfl, rfl, ha⟩
  · simp [bndO] at h1; subst h1
    rcases hlo with ⟨rfl, rfl⟩ | ⟨c, c', rfl, rfl, hc⟩
    · simp [bndO] at h2; subst h2
      exact ⟨by simp [Instr.sliceBounds], Nat.le_refl _, Nat.zero_le _⟩
    · have hb := fun code => bnd_run (P := P) hc h2 (Nat.le_refl _) code w
      exact ⟨by simp [Instr.sliceBounds, (hb _).1], Nat.le_refl _, (hb .sliceB).2⟩
  · have ha' := fun code => bnd_run (P := P) ha h1 hle code w
    rcases hlo with ⟨rfl, rfl⟩ | ⟨c, c', rfl, rfl, hc⟩
    · simp [bndO] at h2; subst h2
      exact ⟨by simp [Instr.sliceBounds, (ha' _).1], (ha' .sliceB).2, Nat.zero_le _⟩
    · have hb := fun code => bnd_run (P := P) hc h2 (Nat.le_refl _) code w
      exact ⟨by simp [Instr.sliceBounds, (hb _).1, (ha' _).1], (ha' .sliceB).2, (hb .sliceB).2⟩

theorem sliceV_run {t el : TypeId} {esz : Nat} (hu : P.underlying t = some (.slice el)) (hsz : sizeT P el = some esz) {x x' v : Value} (hx : VRel ρ x x') {lo hi lo' hi' : Option Value}
    (hlo : (lo = none ∧ lo' = none) ∨ ∃ a a', lo = some a ∧ lo' = some a' ∧ VRel ρ a a') (hhi : (hi = none ∧ hi' = none) ∨ ∃ a a', hi = some a ∧ hi' = some a' ∧ VRel ρ a a')
    (hs : sliceV esz x lo hi = some v) : ∃ v', (∀ w, (Instr.sliceAt t x' lo' hi' none).run P w = .ok v' w) ∧ VRel ρ v v' := by
  have key : ∀ (len cap T l : Nat), len ≤ cap → bndO hi len len = some T → bndO lo T 0 = some l → (∀ w, (Instr.sliceBounds true len cap lo' hi' none).run P w = .ok (l, T, cap) w) ∧ T ≤ len ∧ l ≤ T :=
    fun len cap T l hle h1 h2 => ⟨fun w => (bounds_run (P := P) true hlo hhi len cap T l hle h1 h2 w).1, (bounds_run (P := P) true hlo hhi len cap T l hle h1 h2 default).2⟩
  have hsl : ∀ w lo hi mx, (Instr.sliceAt t x' lo hi mx).run P w = (Instr.slice t x' lo hi mx).run P w := by
    intro w lo hi mx
    simp only [Instr.sliceAt, Sem.run_bind, run_und hu, Result.andThen_ok]
  simp only [hsl]
  cases hx with
  | nilS =>
    simp only [sliceV] at hs
    split at hs <;> try cases hs
    rename_i T h1
    split at hs <;> try cases hs
    rename_i l h2
    obtain ⟨hb, hT, hl⟩ := key 0 0 T l (Nat.le_refl _) h1 h2
    obtain rfl : T = 0 := by omega
    obtain rfl : l = 0 := by omega
    refine ⟨.slice none 0 0, fun w => ?_, .nilS⟩
    simp only [Instr.slice, Sem.run_bind, run_und hu, Result.andThen_ok, hb, size_of hsz, Sem.run_pure, if_true]
  | @slice id off n c cap p hp hz hn hc =>
    simp only [sliceV] at hs
    split at hs <;> try cases hs
    rename_i T h1
    split at hs <;> try cases hs
    rename_i l h2
    split at hs <;> try cases hs
    rename_i hce
    obtain ⟨hb, hT, hl⟩ := key n cap T l hn h1 h2
    have hrun : ∀ w, (Instr.slice t (.slice (some ⟨p.b, p.base + off, none⟩) n cap) lo' hi' none).run P w =
        .ok (.slice (if cap = l then some ⟨p.b, p.base + off, none⟩ else (some ⟨p.b, p.base + off, none⟩ : Option Addr).map (·.add (l * esz))) (T - l) (cap - l)) w := by
      intro w
      simp only [Instr.slice, Sem.run_bind, run_und hu, Result.andThen_ok, hb, size_of hsz, Sem.run_pure]
    refine ⟨_, hrun, ?_⟩
    by_cases hcl : cap = l
    · rw [if_pos hcl]
      have e1 : T - l = 0 := by omega
      have e2 : cap - l = 0 := by omega
      rw [e1, e2]
      exact .sliceE hp
    · rw [if_neg hcl]
      simp only [Option.map_some, addr_add]
      rw [Nat.add_assoc]
      refine .slice hp (by omega) (by omega) ?_
      have : (cap - l) * p.esz + l * p.esz = cap * p.esz := by rw [← Nat.add_mul]; congr 1; omega
      rw [hz, hce] at this hc ⊢
      omega
  | @sliceE id off c p a hp =>
    simp only [sliceV] at hs
    split at hs <;> try cases hs
    rename_i T h1
    split at hs <;> try cases hs
    rename_i l h2
    split at hs <;> try cases hs
    obtain ⟨hb, hT, hl⟩ := key 0 0 T l (Nat.le_refl _) h1 h2
    obtain rfl : T = 0 := by omega
    obtain rfl : l = 0 := by omega
    refine ⟨.slice (some a) 0 0, fun w => ?_, .sliceE hp⟩
    simp only [Instr.slice, Sem.run_bind, run_und hu, Result.andThen_ok, hb, size_of hsz, Sem.run_pure, if_true]
  | _ => simp [sliceV] at hs

theorem sliceSV_run {t : TypeId} (hu : P.underlying t = some .string) {x x' v : Value} (hx : VRel ρ x x') {lo hi lo' hi' : Option Value}
    (hlo : (lo = none ∧ lo' = none) ∨ ∃ a a', lo = some a ∧ lo' = some a' ∧ VRel ρ a a') (hhi : (hi = none ∧ hi' = none) ∨ ∃ a a', hi = some a ∧ hi' = some a' ∧ VRel ρ a a')
    (hs : sliceSV x lo hi = some v) : ∃ v', (∀ w, (Instr.sliceAt t x' lo' hi' none).run P w = .ok v' w) ∧ VRel ρ v v' := by
  cases x <;> simp only [sliceSV] at hs <;> try cases hs
  rename_i s
  have := hx.str_inv; subst this
  split at hs <;> try cases hs
  rename_i T h1
  split at hs <;> try cases hs
  rename_i l h2
  refine ⟨_, fun w => ?_, .str _⟩
  have hb := (bounds_run (P := P) false hlo hhi s.size s.size T l (Nat.le_refl _) h1 h2 w).1
  simp only [Instr.sliceAt, Instr.slice, Sem.run_bind, run_und hu, Result.andThen_ok, Option.isSome_none, Bool.false_eq_true, if_false, Sem.run_pure, hb]

theorem optRel {o : Option Operand} (ho : ∀ x ∈ o.toArray, VRel ρ (ev e x) (ev' x)) :
    (o.map (ev e) = none ∧ o.map ev' = none) ∨ ∃ a a', o.map (ev e) = some a ∧ o.map ev' = some a' ∧ VRel ρ a a' := by
  cases o with
  | none => exact .inl ⟨rfl, rfl⟩
  | some x => exact .inr ⟨_, _, rfl, rfl, ho x (by simp)⟩

theorem part_run {t : TypeId} {g : Bool} {n : Nat} (hg : aggT P t = some g) (hn : sizeT P t = some n) {cs cs' : Array Value} (hr : VRel ρ (.agg cs) (.agg cs')) (off : Nat) :
    (g = true → off + n ≤ cs.size → ∃ v', (∀ w, (part t cs' off).run P w = .ok v' w) ∧ VRel ρ (.agg (cs.extract off (off + n))) v') ∧
    (g = false → ∀ v, cs[off]? = some v → ∃ v', (∀ w, (part t cs' off).run P w = .ok v' w) ∧ VRel ρ v v') := by
  cases hr with
  | agg ha hc ra =>
    refine ⟨fun hgt hle => ⟨.agg (cs'.extract off (off + n)), fun w => ?_, ?_⟩, fun hgf v hv => ?_⟩
    · subst hgt
      simp only [part, Sem.run_bind, agg_of hg, Result.andThen_ok, if_true, size_of hn, Sem.run_pure]
    · refine .agg (by simp [ha]) (fun i hi => ?_) (fun i hi hi' => ?_)
      · simp at hi
        simp only [Array.getElem_extract]
        exact hc _ (by omega)
      · simp at hi hi'
        simp only [Array.getElem_extract]
        exact ra _ (by omega) (by omega)
    · subst hgf
      have hi := (Array.getElem?_eq_some_iff.1 hv).1
      have hx := ra off hi (ha ▸ hi)
      rw [(Array.getElem?_eq_some_iff.1 hv).2] at hx
      refine ⟨_, fun w => ?_, hx⟩
      simp only [part, Sem.run_bind, agg_of hg, Result.andThen_ok, Bool.false_eq_true, if_false]
      rw [Array.getElem?_eq_getElem (ha ▸ hi)]
      rfl

theorem fold_rel {f : Value → Value → Option Value} {g : Value → Value → Sem Value} (hfg : ∀ x x' y y' v, VRel ρ x x' → VRel ρ y y' → f x y = some v → ∃ v', (∀ w, (g x' y').run P w = .ok v' w) ∧ VRel ρ v v') :
    ∀ (l l' : List Value) (x x' v : Value), LRel ρ l l' → VRel ρ x x' → foldO f x l = some v → ∃ v', (∀ w, (l'.foldlM g x').run P w = .ok v' w) ∧ VRel ρ v v'
  | [], l', x, x', v, hl, hx, hf => by
    simp [foldO] at hf; subst hf
    have : l' = [] := List.eq_nil_of_length_eq_zero (by have := hl.1; simpa using this.symm)
    subst this
    exact ⟨x', fun w => by simp, hx⟩
  | y :: l, l', x, x', v, hl, hx, hf => by
    cases l' with
    | nil => have := hl.1; simp at this
    | cons y' l' =>
      obtain ⟨y0, h1, hy⟩ := hl.2 0 y rfl
      simp at h1; subst h1
      simp only [foldO] at hf
      cases hz : f x y with
      | none => rw [hz] at hf; cases hf
      | some z =>
        rw [hz] at hf
        obtain ⟨z', hz', hzr⟩ := hfg x x' y y' z hx hy hz
        obtain ⟨v', hv', hvr⟩ := fold_rel hfg l l' z z' v ⟨by have := hl.1; simpa using this, fun i a ha => by simpa using hl.2 (i + 1) a (by simpa using ha)⟩ hzr hf
        exact ⟨v', fun w => by simp only [List.foldlM_cons, Sem.run_bind, hz', Result.andThen_ok, hv'], hvr⟩

theorem min2_rel (x x' y y' v : Value) (hx : VRel ρ x x') (hy : VRel ρ y y') (h : min2V x y = some v) : ∃ v', (∀ w, (Builtin.min2 x' y').run P w = .ok v' w) ∧ VRel ρ v v' := by
  cases hx <;> cases hy <;> simp only [min2V] at h <;> try cases h
  exact ⟨_, fun w => rfl, .int _ _⟩
theorem max2_rel (x x' y y' v : Value) (hx : VRel ρ x x') (hy : VRel ρ y y') (h : max2V x y = some v) : ∃ v', (∀ w, (Builtin.max2 x' y').run P w = .ok v' w) ∧ VRel ρ v v' := by
  cases hx <;> cases hy <;> simp only [max2V] at h <;> try cases h
  exact ⟨_, fun w => rfl, .int _ _⟩

/-- What a call of a builtin is. -/
theorem exec_builtin (b : Builtin) (args : Array Operand) (argTypes : Array TypeId) (dst : Option Tmp) (ty : TypeId) (pos : String) (after : Array Edge) (guard : Option (Nat × Bool)) :
    ∃ cs, execOp ev' { dst, op := .call { callee := .builtin b, args, argTypes }, type := ty, pos, after, guard } = builtin b argTypes ty cs (args.map ev') := by
  exact ⟨_, rfl⟩

theorem simBuild {t : TypeId} {parts : Array (Nat × Operand)} {rop : ROp} (hc : compileOp P (.build t parts) = some rop) (hops : ∀ p ∈ parts.toList, VRel ρ (ev e p.2) (ev' p.2)) {v : Value} {h' : Heap} (hs : stepOp rop e h = some (v, h')) :
    h' = h ∧ ∃ v', (∀ w, OpGives P (.build t parts) ev' w v') ∧ VRel ρ v v' := by
  have hpr := parts_rel (e := e) (ev' := ev') (ρ := ρ) (parts := parts.toList) hops
  have hparts : (parts.map fun (i, x) => (i, ev' x)).toList = parts.toList.map fun p => (p.1, ev' p.2) := by simp
  simp only [compileOp] at hc
  cases hu : P.underlying t with
  | none => rw [hu] at hc; cases hc
  | some d =>
    cases hz : zeroCells P t with
    | none => rw [hu, hz] at hc; cases d <;> cases hc
    | some z =>
      rw [hu, hz] at hc
      obtain ⟨i, zv, hi, hzv, hna, hva, hsz, hpos, rfl⟩ := zero_of hz
      obtain ⟨hl, hcel⟩ := noAddr_cells hna hva ρ
      cases d <;> simp only at hc <;> try cases hc
      case struct fs =>
        cases hpl : placesOf P fs.toList with
        | none => rw [hpl] at hc; cases hc
        | some pl =>
          rw [hpl] at hc; simp at hc; subst hc
          simp only [stepOp] at hs
          split at hs <;> try cases hs
          rename_i cs hf
          obtain ⟨out', hf', hr, hcc⟩ := fill_rel (ρ := ρ) _ _ _ _ zv.cells _ hpr.1 hpr.2 hl hcel hf
          refine ⟨rfl, .agg out', fun w dst ty pos after guard => ?_, by have := hr.agg hcc; simpa using this⟩
          have hm : ∀ w, (fs.mapM fun f => (do pure (f.offset, ← sizeOf f.type) : Sem (Nat × Nat))).run P w = .ok pl.toArray w := by
            intro w
            obtain ⟨l⟩ := fs
            rw [List.mapM_toArray]
            simp only [Sem.run_map, (places_spec (P := P) (w := w) l pl hpl).2, Result.andThen_ok]
          have hf2 : Instr.fill (fun x => pl.toArray[x]?) zv.cells (parts.toList.map fun p => (p.1, ev' p.2)) = some out' := by
            rw [← hf']; congr 1; funext x; simp
          simp only [execOp, Sem.run_bind, Instr.build, run_zero hi hzv, Result.andThen_ok, run_und hu, hm, hparts, hf2, Sem.run_pure]
      case array n el =>
        cases hse : sizeT P el with
        | none => rw [hse] at hc; cases hc
        | some s =>
          rw [hse] at hc; simp at hc; subst hc
          simp only [stepOp] at hs
          split at hs <;> try cases hs
          rename_i cs hf
          have hmono : ∀ (ps : List (Nat × Value)) (c out : List Value), fillL (fun i => ((List.range n).map fun i => (i * s, s))[i]?) c ps = some out → fillL (fun i => some (i * s, s)) c ps = some out := by
            intro ps
            induction ps with
            | nil => intro c out h; exact h
            | cons p ps ih =>
              intro c out h
              obtain ⟨i, x⟩ := p
              simp only [fillL] at h ⊢
              by_cases hin : i < n
              · have : ((List.range n).map fun i => (i * s, s))[i]? = some (i * s, s) := by simp [hin]
                rw [this] at h
                simp only at h ⊢
                split at h
                · rename_i hcnd; rw [if_pos hcnd]; exact ih _ _ h
                · cases h
              · have : ((List.range n).map fun i => (i * s, s))[i]? = none := by simp [hin]
                rw [this] at h; cases h
          obtain ⟨out', hf', hr, hcc⟩ := fill_rel (ρ := ρ) _ _ _ _ zv.cells _ hpr.1 hpr.2 hl hcel (hmono _ _ _ hf)
          refine ⟨rfl, .agg out', fun w dst ty pos after guard => ?_, by have := hr.agg hcc; simpa using this⟩
          simp only [execOp, Sem.run_bind, Instr.build, run_zero hi hzv, Result.andThen_ok, run_und hu, size_of hse, hparts, hf', Sem.run_pure]

theorem simIndex {t : TypeId} {x i : Operand} {rop : ROp} (hc : compileOp P (.index t x i) = some rop) (hx : VRel ρ (ev e x) (ev' x)) (hi : VRel ρ (ev e i) (ev' i)) {v : Value} {h' : Heap} (hs : stepOp rop e h = some (v, h')) :
    h' = h ∧ ∃ v', (∀ w, OpGives P (.index t x i) ev' w v') ∧ VRel ρ v v' := by
  simp only [compileOp] at hc
  cases hu : P.underlying t with
  | none => rw [hu] at hc; cases hc
  | some d =>
    rw [hu] at hc
    cases d <;> simp only at hc <;> try cases hc
    case array n el =>
      split at hc <;> try cases hc
      rename_i g s hg hsz
      simp only [stepOp] at hs
      split at hs <;> try cases hs
      rename_i cs k j hxe hie
      rw [hxe] at hx
      rw [hie] at hi
      have hi' := hi.int_inv
      split at hs <;> try cases hs
      rename_i hj
      cases hx' : ev' x <;> rw [hx'] at hx <;> try (cases hx; done)
      rename_i cs'
      obtain ⟨p1, p2⟩ := part_run hg hsz hx (j.toNat * s)
      split at hs
      · split at hs <;> try cases hs
        rename_i hle
        obtain ⟨v', a, b⟩ := p1 rfl hle
        refine ⟨rfl, v', fun w dst ty pos after guard => ?_, b⟩
        simp only [execOp, Sem.run_bind, Instr.index, hi', asIntOf, Sem.run_pure, Result.andThen_ok, run_und hu, hx', size_of hsz, hj, and_self, if_true, a, Sem.run_ite]
      · split at hs <;> try cases hs
        rename_i hv
        obtain ⟨v', a, b⟩ := p2 rfl _ hv
        refine ⟨rfl, v', fun w dst ty pos after guard => ?_, b⟩
        simp only [execOp, Sem.run_bind, Instr.index, hi', asIntOf, Sem.run_pure, Result.andThen_ok, run_und hu, hx', size_of hsz, hj, and_self, if_true, a, Sem.run_ite]
    simp only [stepOp] at hs
    split at hs <;> try cases hs
    rename_i s k j hxe hie
    rw [hxe] at hx
    rw [hie] at hi
    have hx' := hx.str_inv
    have hi' := hi.int_inv
    split at hs <;> try cases hs
    rename_i hj
    split at hs <;> try cases hs
    rename_i b hb
    exact ⟨rfl, _, fun w dst ty pos after guard => by simp [execOp, Instr.index, hx', hi', asIntOf, run_und hu, hj, hb], .int _ _⟩

theorem simIndexAddr {t : TypeId} {x i : Operand} {rop : ROp} (hc : compileOp P (.indexAddr t x i) = some rop) (hx : VRel ρ (ev e x) (ev' x)) (hi : VRel ρ (ev e i) (ev' i)) {v : Value} {h' : Heap} (hs : stepOp rop e h = some (v, h')) :
    h' = h ∧ ∃ v', (∀ w, OpGives P (.indexAddr t x i) ev' w v') ∧ VRel ρ v v' := by
  simp only [compileOp] at hc
  cases hu : P.underlying t with
  | none => rw [hu] at hc; cases hc
  | some d =>
    rw [hu] at hc
    cases d <;> simp only at hc <;> try cases hc
    case array n el =>
      cases hse : sizeT P el with
      | none => rw [hse] at hc; cases hc
      | some s =>
        rw [hse] at hc; simp at hc; subst hc
        simp only [stepOp] at hs
        split at hs <;> try cases hs
        rename_i id o k j hxe hie
        rw [hxe] at hx
        rw [hie] at hi
        have hi' := hi.int_inv
        split at hs <;> try cases hs
        rename_i hj
        cases hx' : ev' x <;> rw [hx'] at hx <;> try (cases hx; done)
        cases hx with
        | @ptr _ _ p hp =>
          refine ⟨rfl, _, fun w dst ty pos after guard => ?_, .ptr (off := o + j.toNat * s) hp⟩
          simp only [execOp, Sem.run_bind, Instr.indexAt, hi', asIntOf, Sem.run_pure, Result.andThen_ok, run_und hu, hx', Instr.sureAddr, hj, and_self, if_true, size_of hse, addr_add, Nat.add_assoc, Sem.run_ite]
    case slice el =>
      cases hse : sizeT P el with
      | none => rw [hse] at hc; cases hc
      | some s =>
        rw [hse] at hc; simp at hc; subst hc
        simp only [stepOp] at hs
        split at hs <;> try cases hs
        rename_i id o len c k j hxe hie
        rw [hxe] at hx
        rw [hie] at hi
        have hi' := hi.int_inv
        split at hs <;> try cases hs
        rename_i hj
        cases hx' : ev' x <;> rw [hx'] at hx <;> try (cases hx; done)
        cases hx with
        | @slice _ _ _ _ cap p hp hz hn hcc =>
          refine ⟨rfl, _, fun w dst ty pos after guard => ?_, .ptr (off := o + j.toNat * s) hp⟩
          simp only [execOp, Sem.run_bind, Instr.indexAt, hi', asIntOf, Sem.run_pure, Result.andThen_ok, run_und hu, hx', hj, and_self, if_true, size_of hse, addr_add, Nat.add_assoc, Sem.run_ite]
        | sliceE => omega

theorem simField {t : TypeId} {x : Operand} {i : Nat} {rop : ROp} (hc : compileOp P (.field t x i) = some rop) (hx : VRel ρ (ev e x) (ev' x)) {v : Value} {h' : Heap} (hs : stepOp rop e h = some (v, h')) :
    h' = h ∧ ∃ v', (∀ w, OpGives P (.field t x i) ev' w v') ∧ VRel ρ v v' := by
  simp only [compileOp] at hc
  cases hu : P.underlying t with
  | none => rw [hu] at hc; cases hc
  | some d =>
    rw [hu] at hc
    cases d <;> simp only at hc <;> try cases hc
    rename_i fs
    cases hf : fs[i]? with
    | none => rw [hf] at hc; cases hc
    | some f =>
      rw [hf] at hc
      simp only at hc
      split at hc <;> try cases hc
      rename_i g n hg hn
      simp only [stepOp] at hs
      split at hs <;> try cases hs
      rename_i cs hxe
      rw [hxe] at hx
      cases hx' : ev' x <;> rw [hx'] at hx <;> try (cases hx; done)
      rename_i cs'
      obtain ⟨p1, p2⟩ := part_run hg hn hx f.offset
      split at hs
      · split at hs <;> try cases hs
        rename_i hle
        obtain ⟨v', a, b⟩ := p1 rfl hle
        refine ⟨rfl, v', fun w dst ty pos after guard => ?_, b⟩
        simp only [execOp, Sem.run_bind, Instr.field, run_und hu, Result.andThen_ok, hx', asAgg, hf, Sem.run_pure, a]
      · split at hs <;> try cases hs
        rename_i hv
        obtain ⟨v', a, b⟩ := p2 rfl _ hv
        refine ⟨rfl, v', fun w dst ty pos after guard => ?_, b⟩
        simp only [execOp, Sem.run_bind, Instr.field, run_und hu, Result.andThen_ok, hx', asAgg, hf, Sem.run_pure, a]

theorem simFieldAddr {t : TypeId} {x : Operand} {i : Nat} {rop : ROp} (hc : compileOp P (.fieldAddr t x i) = some rop) (hx : VRel ρ (ev e x) (ev' x)) {v : Value} {h' : Heap} (hs : stepOp rop e h = some (v, h')) :
    h' = h ∧ ∃ v', (∀ w, OpGives P (.fieldAddr t x i) ev' w v') ∧ VRel ρ v v' := by
  simp only [compileOp] at hc
  cases hu : P.underlying t with
  | none => rw [hu] at hc; cases hc
  | some d =>
    rw [hu] at hc
    cases d <;> simp only at hc <;> try cases hc
    rename_i fs
    cases hf : fs[i]? with
    | none => rw [hf] at hc; cases hc
    | some f =>
      rw [hf] at hc
      simp only at hc
      split at hc <;> try cases hc
      rename_i n hn
      simp only [stepOp] at hs
      split at hs <;> try cases hs
      rename_i id o hxe
      rw [hxe] at hx
      cases hx' : ev' x <;> rw [hx'] at hx <;> try (cases hx; done)
      cases hx with
      | @ptr _ _ p hp =>
        refine ⟨rfl, _, fun w dst ty pos after guard => ?_, .ptr (off := o + f.offset) hp⟩
        simp only [execOp, Sem.run_bind, Instr.fieldAt, run_und hu, Result.andThen_ok, hx', Instr.sureAddr, hf, Sem.run_pure, fieldPlace, size_of hn, addr_add, Nat.add_assoc, Nat.succ_ne_zero, if_false, Sem.run_ite]

theorem eqKind_plain {t : TypeId} {k : EqK} (hk : eqKind P t = some k) : k ≠ .int ∧ k ≠ .str := by
  unfold eqKind at hk
  split at hk <;> try cases hk
  · exact ⟨by simp, by simp⟩
  · exact ⟨by simp, by simp⟩
  · exact ⟨by simp, by simp⟩
  · exact ⟨by simp, by simp⟩
  · rename_i fs _
    split at hk <;> try cases hk
    cases hf : fieldsK P fs.toList with
    | none => rw [hf] at hk; cases hk
    | some l => rw [hf] at hk; simp at hk; subst hk; exact ⟨by simp, by simp⟩

theorem binOp_eq {t : TypeId} {k : EqK} (hk : k ≠ .int ∧ k ≠ .str) {x x' y y' : Value} {b : Bool} (hx : VRel ρ x x') (hy : VRel ρ y y') (he : eqV k x y = some b) :
    binOp .eql t x' y' = (do pure (.bool (← Op.equal t x' y'))) ∧ binOp .neq t x' y' = (do pure (.bool (!(← Op.equal t x' y')))) := by
  cases hx <;> cases hy <;> first | exact ⟨rfl, rfl⟩ | (exfalso; cases k <;> simp_all [eqV])

theorem simBin {op : BinOp} {t ty : TypeId} {x y : Operand} {rop : ROp} (hc : compileOp P (.binOp op t x y ty) = some rop) (hx : VRel ρ (ev e x) (ev' x)) (hy : VRel ρ (ev e y) (ev' y)) {v : Value} {h' : Heap} (hs : stepOp rop e h = some (v, h')) :
    h' = h ∧ ∃ v', (∀ w, OpGives P (.binOp op t x y ty) ev' w v') ∧ VRel ρ v v' := by
  have hbin : rop = .bin op x y → h' = h ∧ ∃ v', (∀ w, OpGives P (.binOp op t x y ty) ev' w v') ∧ VRel ρ v v' := by
    intro hr
    subst hr
    simp only [stepOp] at hs
    split at hs <;> try cases hs
    rename_i hb
    cases hxe : ev e x <;> rw [hxe] at hb hx <;> simp only [binV] at hb <;> try (cases hb; done)
    · cases hye : ev e y <;> rw [hye] at hb hy <;> simp only at hb <;> try (cases hb; done)
      have hx' := hx.int_inv
      have hy' := hy.int_inv
      refine ⟨rfl, v, fun w dst ty pos after guard => ?_, ?_⟩
      · have hg : ∀ w, (eqGuard op t x y (ev' x) (ev' y)).run P w = .ok () w := by
          intro w; rw [hx', hy']; simp [eqGuard]
        simp only [execOp, Sem.run_bind, hg, Result.andThen_ok]
        rw [hx', hy', run_binI hb]
        rfl
      · have : ∀ {op k k' a b} {v : Value}, binI op k a k' b = some v → noAddr v = true := by
          intro op k k' a b v hb
          cases op <;> simp only [binI] at hb <;> (repeat (split at hb <;> try cases hb)) <;> (try (injection hb with hb; subst hb)) <;> rfl
        exact noAddr_self ρ v (this hb)
    · cases hye : ev e y <;> rw [hye] at hb hy <;> simp only at hb <;> try (cases hb; done)
      have hx' := hx.str_inv
      have hy' := hy.str_inv
      refine ⟨rfl, v, fun w dst ty pos after guard => ?_, ?_⟩
      · have hg : ∀ w, (eqGuard op t x y (ev' x) (ev' y)).run P w = .ok () w := by
          intro w; rw [hx', hy']; simp [eqGuard]
        simp only [execOp, Sem.run_bind, hg, Result.andThen_ok]
        rw [hx', hy', run_binS hb]
        rfl
      · have : ∀ {op a b} {v : Value}, binS op a b = some v → noAddr v = true := by
          intro op a b v hb
          cases op <;> simp only [binS] at hb <;> (repeat (split at hb <;> try cases hb)) <;> (try (injection hb with hb; subst hb)) <;> (try cases hb) <;> rfl
        exact noAddr_self ρ v (this hb)
  simp only [compileOp] at hc
  split at hc
  · injection hc with hc; exact hbin hc.symm
  · injection hc with hc; exact hbin hc.symm
  · cases op <;> simp only at hc <;> try (cases hc; done)
    all_goals
      cases hk : eqKind P t with
      | none => rw [hk] at hc; cases hc
      | some k =>
        rw [hk] at hc; simp at hc; subst hc
        simp only [stepOp] at hs
        split at hs <;> try cases hs
        rename_i hb
        have hrun := fun w => run_eq (P := P) hk hx hy hb w
        obtain ⟨d1, d2⟩ := binOp_eq (t := t) (eqKind_plain hk) hx hy hb
        refine ⟨rfl, _, fun w dst ty pos after guard => ?_, .bool _⟩
        simp only [execOp, Sem.run_bind, (hrun _).1, Result.andThen_ok]
        first | rw [d1] | rw [d2]
        simp only [Sem.run_bind, (hrun _).2, Result.andThen_ok, Sem.run_pure]

theorem compileCall_inv {c : Call} {rop : ROp} (hc : compileCall P c = some rop) :
    (∃ f args tys, c = ⟨.value f, args, tys⟩ ∧ okOpnd f = true ∧ rop = .call f args.toList) ∨
    (∃ x t, c = ⟨.builtin .len, #[x], #[t]⟩ ∧ ((P.underlying t = some .string ∧ rop = .lenS x) ∨ (∃ el, P.underlying t = some (.slice el)) ∧ rop = .len x)) ∨
    (∃ x xs tys, c = ⟨.builtin .min, ⟨x :: xs⟩, tys⟩ ∧ rop = .min (x :: xs)) ∨
    (∃ x xs tys, c = ⟨.builtin .max, ⟨x :: xs⟩, tys⟩ ∧ rop = .max (x :: xs)) ∨
    (∃ x y t u el i z, c = ⟨.builtin .append, #[x, y], #[t, u]⟩ ∧ P.underlying t = some (.slice el) ∧ P.info? el = some i ∧ zeroCells P el = some z ∧ (P.underlying u = some .string ∨ ∃ el', P.underlying u = some (.slice el')) ∧ rop = .append i.size i.bytes x y) ∨
    (∃ x y t u el i, c = ⟨.builtin .copy, #[x, y], #[t, u]⟩ ∧ P.underlying t = some (.slice el) ∧ P.info? el = some i ∧ rop = .copy i.size x y) := by
  obtain ⟨callee, args, argTypes⟩ := c
  obtain ⟨args⟩ := args
  obtain ⟨argTypes⟩ := argTypes
  cases callee with
  | value f =>
    simp only [compileCall] at hc
    split at hc
    · rename_i ho
      injection hc with hc
      exact .inl ⟨f, _, _, rfl, ho, hc.symm⟩
    · cases hc
  | invoke => simp [compileCall] at hc
  | builtin b =>
    simp only [compileCall] at hc
    split at hc
    · rename_i x t
      refine .inr (.inl ⟨x, t, rfl, ?_⟩)
      split at hc
      · rename_i hu; injection hc with hc; exact .inl ⟨hu, hc.symm⟩
      · rename_i el hu; injection hc with hc; exact .inr ⟨⟨_, hu⟩, hc.symm⟩
      · cases hc
    · rename_i _ x xs
      injection hc with hc
      exact .inr (.inr (.inl ⟨x, xs, _, rfl, hc.symm⟩))
    · rename_i _ x xs
      injection hc with hc
      exact .inr (.inr (.inr (.inl ⟨x, xs, _, rfl, hc.symm⟩)))
    · rename_i x y t u
      refine .inr (.inr (.inr (.inr (.inl ?_))))
      split at hc
      · rename_i el hu
        split at hc
        · rename_i i z el' hi hz hu'
          injection hc with hc
          exact ⟨x, y, t, u, el, i, z, rfl, hu, hi, hz, .inr ⟨_, hu'⟩, hc.symm⟩
        · rename_i i z hi hz hu'
          injection hc with hc
          exact ⟨x, y, t, u, el, i, z, rfl, hu, hi, hz, .inl hu', hc.symm⟩
        · cases hc
      · cases hc
    · rename_i x y t u
      refine .inr (.inr (.inr (.inr (.inr ?_))))
      split at hc
      · rename_i el hu
        split at hc
        · rename_i i hi
          injection hc with hc
          exact ⟨x, y, t, u, el, i, rfl, hu, hi, hc.symm⟩
        · cases hc
      · cases hc
    · cases hc

theorem simCallP {c : Call} {rop : ROp} (hc : compileOp P (.call c) = some rop) (hcls : rop.cls = .P) (hops : ∀ x ∈ c.operands, VRel ρ (ev e x) (ev' x)) {v : Value} {h' : Heap} (hs : stepOp rop e h = some (v, h')) :
    h' = h ∧ ∃ v', (∀ w, OpGives P (.call c) ev' w v') ∧ VRel ρ v v' := by
  rcases compileCall_inv hc with ⟨f, args, tys, rfl, _, rfl⟩ | ⟨x, t, rfl, ⟨hu, rfl⟩ | ⟨⟨el, hu⟩, rfl⟩⟩ | ⟨x, xs, tys, rfl, rfl⟩ | ⟨x, xs, tys, rfl, rfl⟩ | ⟨x, y, t, u, el, i, z, rfl, _, _, _, _, rfl⟩ | ⟨x, y, t, u, el, i, rfl, _, _, rfl⟩
  · simp [ROp.cls] at hcls
  · have hx := hops x (by simp [Call.operands])
    simp only [stepOp] at hs
    split at hs <;> try cases hs
    rename_i s hn
    refine ⟨rfl, _, fun w dst ty pos after guard => ?_, .int _ _⟩
    obtain ⟨cs, he⟩ := exec_builtin (ev' := ev') .len #[x] #[t] dst ty pos after guard
    rw [he]
    rw [hn] at hx
    simp [builtin, Builtin.len_, run_und hu, hx.str_inv, goInt]
  · have hx := hops x (by simp [Call.operands])
    simp only [stepOp] at hs
    split at hs <;> try cases hs
    rename_i a n c hn
    refine ⟨rfl, _, fun w dst ty pos after guard => ?_, .int _ _⟩
    obtain ⟨cs, he⟩ := exec_builtin (ev' := ev') .len #[x] #[t] dst ty pos after guard
    rw [he]
    rw [hn] at hx
    have hx' : ∃ b c', ev' x = .slice b n c' := by
      generalize ev' x = z at hx
      cases hx
      · exact ⟨_, _, rfl⟩
      · exact ⟨_, _, rfl⟩
      · exact ⟨_, _, rfl⟩
    obtain ⟨b, c', hx'⟩ := hx'
    simp [builtin, Builtin.len_, run_und hu, hx', goInt]
  · have ha := args_rel (e := e) (ev' := ev') (ρ := ρ) (l := x :: xs) (fun y hy => hops y (by simp [Call.operands]; simpa using hy))
    simp only [stepOp, List.map_cons, fold1] at hs
    split at hs <;> try cases hs
    rename_i hf
    have hl : LRel ρ (xs.map (ev e)) (xs.map ev') := args_rel (fun y hy => hops y (by simp [Call.operands]; exact .inr hy))
    obtain ⟨v', h1, h2⟩ := fold_rel (P := P) (g := Builtin.min2) (fun x x' y y' v hx hy h => min2_rel x x' y y' v hx hy h) _ _ _ _ _ hl (hops x (by simp [Call.operands])) hf
    refine ⟨rfl, v', fun w dst ty pos after guard => ?_, h2⟩
    obtain ⟨cs, he⟩ := exec_builtin (ev' := ev') .min ⟨x :: xs⟩ tys dst ty pos after guard
    rw [he]
    simp [builtin, Builtin.min_, h1]
  · have hl : LRel ρ (xs.map (ev e)) (xs.map ev') := args_rel (fun y hy => hops y (by simp [Call.operands]; exact .inr hy))
    simp only [stepOp, List.map_cons, fold1] at hs
    split at hs <;> try cases hs
    rename_i hf
    obtain ⟨v', h1, h2⟩ := fold_rel (P := P) (g := Builtin.max2) (fun x x' y y' v hx hy h => max2_rel x x' y y' v hx hy h) _ _ _ _ _ hl (hops x (by simp [Call.operands])) hf
    refine ⟨rfl, v', fun w dst ty pos after guard => ?_, h2⟩
    obtain ⟨cs, he⟩ := exec_builtin (ev' := ev') .max ⟨x :: xs⟩ tys dst ty pos after guard
    rw [he]
    simp [builtin, Builtin.max_, h1]
  · simp [ROp.cls] at hcls
  · simp [ROp.cls] at hcls

/-- **AN OPERATION THAT ONLY RECKONS.** -/
theorem simP {op : Op} {rop : ROp} (hc : compileOp P op = some rop) (hcls : rop.cls = .P) (hops : ∀ x ∈ op.operands, VRel ρ (ev e x) (ev' x)) {v : Value} {h' : Heap} (hs : stepOp rop e h = some (v, h')) :
    h' = h ∧ ∃ v', (∀ w, OpGives P op ev' w v') ∧ VRel ρ v v' := by
  cases op with
  | move x =>
    simp only [compileOp] at hc; injection hc with hc; subst hc
    simp only [stepOp] at hs; injection hs with hs; injection hs with h1 h2
    subst h1; subst h2
    exact ⟨rfl, ev' x, fun w dst ty pos after guard => rfl, hops x (by simp [Op.operands])⟩
  | assign x =>
    simp only [compileOp] at hc; injection hc with hc; subst hc
    simp only [stepOp] at hs; injection hs with hs; injection hs with h1 h2
    subst h1; subst h2
    exact ⟨rfl, ev' x, fun w dst ty pos after guard => rfl, hops x (by simp [Op.operands])⟩
  | pick c a b =>
    simp only [compileOp] at hc; injection hc with hc; subst hc
    simp only [stepOp] at hs
    have hcc := hops c (by simp [Op.operands])
    have haa := hops a (by simp [Op.operands])
    have hbb := hops b (by simp [Op.operands])
    cases hcv : ev e c <;> rw [hcv] at hs hcc <;> simp only at hs <;> try (cases hs; done)
    rename_i t
    have hce := hcc.bool_inv
    cases t <;> simp only at hs
    · injection hs with hs; injection hs with h1 h2
      subst h1; subst h2
      exact ⟨rfl, ev' b, fun w dst ty pos after guard => by simp [execOp, hce, asBool], hbb⟩
    · injection hs with hs; injection hs with h1 h2
      subst h1; subst h2
      exact ⟨rfl, ev' a, fun w dst ty pos after guard => by simp [execOp, hce, asBool], haa⟩
  | alloc t =>
    simp only [compileOp] at hc
    cases hz : zeroCells P t with
    | none => rw [hz] at hc; cases hc
    | some l => rw [hz] at hc; simp at hc; subst hc; simp [ROp.cls] at hcls
  | box t x => simp only [compileOp] at hc; injection hc with hc; subst hc; simp [ROp.cls] at hcls
  | build t parts => exact simBuild hc (fun p hp => hops p.2 (by simp [Op.operands]; exact ⟨p.1, by simpa using hp⟩)) hs
  | buildSlice t n parts =>
    simp only [compileOp] at hc
    repeat (split at hc <;> try (cases hc; done))
    injection hc with hc; subst hc; simp [ROp.cls] at hcls
  | load t a =>
    simp only [compileOp] at hc
    repeat (split at hc <;> try (cases hc; done))
    injection hc with hc; subst hc; simp [ROp.cls] at hcls
  | store t a x =>
    simp only [compileOp] at hc
    repeat (split at hc <;> try (cases hc; done))
    injection hc with hc; subst hc; simp [ROp.cls] at hcls
  | nilCheck x =>
    simp only [compileOp] at hc; injection hc with hc; subst hc
    have hx := hops x (by simp [Op.operands])
    simp only [stepOp] at hs
    split at hs <;> try cases hs
    · rename_i a hxe
      rw [hxe] at hx
      cases hx' : ev' x <;> rw [hx'] at hx <;> try (cases hx; done)
      cases hx with
      | ptr hp => exact ⟨rfl, _, fun w dst ty pos after guard => by simp [execOp, hx'], .ptr hp⟩
    · rename_i f a b hxe
      rw [hxe] at hx
      cases hx' : ev' x <;> rw [hx'] at hx <;> try (cases hx; done)
      cases hx with
      | func _ ha hb ra rb => exact ⟨rfl, _, fun w dst ty pos after guard => by simp [execOp, hx'], .func _ ha hb ra rb⟩
  | binOp op t x y ty => exact simBin hc (hops x (by simp [Op.operands])) (hops y (by simp [Op.operands])) hs
  | unOp op t x =>
    simp only [compileOp] at hc; injection hc with hc; subst hc
    have hx := hops x (by simp [Op.operands])
    simp only [stepOp] at hs
    split at hs <;> try cases hs
    rename_i hu
    cases hxe : ev e x <;> rw [hxe] at hx hu <;> simp only [unV] at hu <;> try (cases hu; done)
    · have hx' := hx.bool_inv
      cases op <;> simp only at hu <;> try (cases hu; done)
      injection hu with hu; subst hu
      exact ⟨rfl, _, fun w dst ty pos after guard => by simp [execOp, hx', Op.unary], .bool _⟩
    · have hx' := hx.int_inv
      cases op <;> simp only at hu <;> try (cases hu; done)
      · injection hu with hu; subst hu
        exact ⟨rfl, _, fun w dst ty pos after guard => by simp [execOp, hx', Op.unary, Op.intArith], .int _ _⟩
      · injection hu with hu; subst hu
        exact ⟨rfl, _, fun w dst ty pos after guard => by simp [execOp, hx', Op.unary, Op.intBits], .int _ _⟩
  | convert src dst x =>
    have hx := hops x (by simp [Op.operands])
    simp only [compileOp] at hc
    split at hc
    · rename_i k0 k h1 h2
      injection hc with hc; subst hc
      simp only [stepOp] at hs
      split at hs <;> try cases hs
      rename_i q n hxe
      rw [hxe] at hx
      exact ⟨rfl, _, fun w dst ty pos after guard => by simp [execOp, hx.int_inv, convert, run_und h1, run_und h2, Conv.intToInt], .int _ _⟩
    · rename_i h1 h2
      injection hc with hc; subst hc
      simp only [stepOp] at hs
      split at hs <;> try cases hs
      rename_i s hxe
      rw [hxe] at hx
      exact ⟨rfl, _, fun w dst ty pos after guard => by simp [execOp, hx.str_inv, convert, run_und h1, run_und h2], .str _⟩
    · cases hc
  | makeFunc fn first captured =>
    cases fn <;> simp only [compileOp] at hc <;> try (cases hc; done)
    rename_i f
    split at hc <;> try cases hc
    rename_i hf
    obtain rfl : first = #[] := Array.eq_empty_of_size_eq_zero hf
    simp only [stepOp] at hs
    injection hs with hs; injection hs with h1 h2
    subst h1; subst h2
    have hl := args_rel (e := e) (ev' := ev') (ρ := ρ) (l := captured.toList) (fun y hy => hops y (by simp [Op.operands]; simpa using hy))
    refine ⟨rfl, .func (.func f) #[] (captured.map ev'), fun w dst ty pos after guard => by simp [execOp, Instr.makeFunc], .func _ rfl ?_ (fun i h => absurd h (by simp)) ?_⟩
    · simp
    · intro i hi hi'
      have := hl.toArray i (by simpa using hi) (by simpa using hi')
      simpa using this
  | makeSlice t l c =>
    simp only [compileOp] at hc
    repeat (split at hc <;> try (cases hc; done))
    injection hc with hc; subst hc; simp [ROp.cls] at hcls
  | slice t x lo hi mx =>
    cases mx with
    | some m => simp only [compileOp] at hc; cases hc
    | none =>
      have hx := hops x (by simp [Op.operands])
      have hlo := optRel (e := e) (ev' := ev') (ρ := ρ) (o := lo) (fun y hy => hops y (by simp [Op.operands] at hy ⊢; simp [hy]))
      have hhi := optRel (e := e) (ev' := ev') (ρ := ρ) (o := hi) (fun y hy => hops y (by simp [Op.operands] at hy ⊢; simp [hy]))
      simp only [compileOp] at hc
      split at hc
      · rename_i hu
        injection hc with hc; subst hc
        simp only [stepOp] at hs
        split at hs <;> try cases hs
        rename_i hsl
        obtain ⟨v', h1, h2⟩ := sliceSV_run hu hx hlo hhi hsl
        exact ⟨rfl, v', fun w dst ty pos after guard => by simp [execOp, h1], h2⟩
      · rename_i el hu
        cases hse : sizeT P el with
        | none => rw [hse] at hc; cases hc
        | some s =>
          rw [hse] at hc; simp at hc; subst hc
          simp only [stepOp] at hs
          split at hs <;> try cases hs
          rename_i hsl
          obtain ⟨v', h1, h2⟩ := sliceV_run hu hse hx hlo hhi hsl
          exact ⟨rfl, v', fun w dst ty pos after guard => by simp [execOp, h1], h2⟩
      · cases hc
  | fieldAddr t x i => exact simFieldAddr hc (hops x (by simp [Op.operands])) hs
  | field t x i => exact simField hc (hops x (by simp [Op.operands])) hs
  | indexAddr t x i => exact simIndexAddr hc (hops x (by simp [Op.operands])) (hops i (by simp [Op.operands])) hs
  | index t x i => exact simIndex hc (hops x (by simp [Op.operands])) (hops i (by simp [Op.operands])) hs
  | call c => exact simCallP hc hcls (fun x hx => hops x hx) hs
  | extract x i =>
    simp only [compileOp] at hc; injection hc with hc; subst hc
    have hx := hops x (by simp [Op.operands])
    simp only [stepOp] at hs
    split at hs <;> try cases hs
    rename_i vs hxe
    split at hs <;> try cases hs
    rename_i hv
    rw [hxe] at hx
    cases hx' : ev' x <;> rw [hx'] at hx <;> try (cases hx; done)
    cases hx with
    | tuple ha ra =>
      have hi := (Array.getElem?_eq_some_iff.1 hv).1
      have hr := ra i hi (ha ▸ hi)
      rw [(Array.getElem?_eq_some_iff.1 hv).2] at hr
      exact ⟨rfl, _, fun w dst ty pos after guard => by simp [execOp, hx', Instr.extract, ha ▸ hi], hr⟩
  | _ => simp only [compileOp] at hc; cases hc
end
end Go.Sim
