/-
  From a run of the evaluator to a call of the program: the tie at the top.
-/
import Derived.Test.YtlflfkdnpalhlaaSimN
import Derived.Below
import Derived.ChangeSame
namespace Go.Sim
open Go.RowKit Go.WideShapes Go.ChangeShapes

/-- Every block alive is read only. -/
def AllRo (h : Heap) : Prop := ∀ id b, blk? h id = some b → b.ro = true

theorem allRo_nil : AllRo [] := fun id b hb => by simp [blk?] at hb

theorem below_of_ev {ρ ρ' : PMap} {h h' : Heap} {w w' : World} (hro : AllRo h) (hev : Ev ρ (view h) w ρ' (view h') w') : Below w.heap.size w w' := by
  refine ⟨hev.os, hev.tape, hev.output, hev.size, fun k hk => ?_⟩
  have hwk : w.heap[k]? = some w.heap[k] := by simp [hk]
  obtain ⟨o', h1, h2⟩ := hev.mem k _ hwk
  rw [h1, hwk]
  congr 1
  have hno : ∀ i, ¬ Own ρ (view h) k i := by
    rintro i ⟨id, blk, p, h1, h2, _⟩
    rw [hro id blk h1] at h2; cases h2
  generalize w.heap[k] = o at h2
  cases o with
  | cells c t f =>
    cases o' with
    | cells c' t' f' =>
      obtain ⟨rfl, rfl, hs, hc⟩ := h2
      congr 1
      apply Array.ext_getElem?
      intro i; exact hc i (hno i)
    | _ => simp [SameObj] at h2
  | _ => exact h2

theorem calls_of_ret {P : Program} {T : Tab} (hT : TabOk P T) (hmix : P.follows .mixedOrders = true) {g : FuncId} {vs : List Value} {h : Heap} {ρ : PMap} {W : World} {args : Array Value} {v : Value} (hv : noAddr v = true)
    (hret : Ret T g vs h fun r _ => r = v) (hro : AllRo h) (hrel : Rel ρ (view h) W) (hl : LRel ρ vs args.toList) (hf : ∀ id, h.length ≤ id → ρ id = none) :
    Calls P g args W fun e W' => e = .returned v ∧ Below W.heap.size W W' := by
  obtain ⟨G, hG, hor⟩ := hret
  have key : ∃ N h', CRN T N g vs h v h' := by
    rcases hor with ⟨hi, hn, n, r, h0, hr, hnr, rfl⟩ | ⟨hi, n, r, h0, hr, rfl⟩
    · exact ⟨n + 1, h, G, n, hG, by omega, .inl ⟨hi, hn, hnr, rfl, h0, hr⟩⟩
    · exact ⟨n + 1, h0, G, n, hG, by omega, .inr ⟨hi, hr⟩⟩
  obtain ⟨N, h', hc⟩ := key
  have := (callSim hT N (fun m _ => runSim hT hmix m) g vs h v h' hc ρ W args.toList hrel hl (fun id h1 _ => hf id h1)).2
  rw [Array.toArray_toList] at this
  refine this.mono fun e w' ⟨v', ρ', he, hvr, hr', hev, _, _⟩ => ⟨?_, below_of_ev hro hev⟩
  rw [he, hvr.noAddr_eq hv]

section
variable {H : Type} {enc : TypeId × Value → H} {P : Program}
theorem post_of_below {f : Func} {s : ChangeSpec} {apart fresh handsOn again : Bool} {W W' : World} {args : Array Value} {v : Value} {ds gs : List (DataW H)} {before pa pv : List MemPlace}
    (hW : DataW.Whole enc P f.params.toList s.vars apart W args.toList ds gs before)
    (hres : ∀ (b : Nat) (sp : Nat → Bool) (hd : Bool), DataW.TrodAll enc P W' b sp hd f.resultTypes.toList (v.resultList f.resultTypes.size) (s.fn H (ds ++ gs)).results [])
    (hargs : ∀ sp : Nat → Bool, (∀ p ∈ before, sp p.block = true) → DataW.TrodAll enc P W' 0 sp true f.params.toList args.toList (s.fn H (ds ++ gs)).args pa)
    (hvars : ∀ sp : Nat → Bool, (∀ p ∈ before, sp p.block = true) → DataW.TrodVars enc P W' sp s.vars (s.fn H (ds ++ gs)).vars pv)
    (hps : before = pa ++ pv) (hb : Below W.heap.size W W')
    (hok : ∀ (j : Nat) (t : TypeId) (r : Value), f.resultTypes[j]? = some t → (v.resultList f.resultTypes.size)[j]? = some r → Value.okWide P W' .any 0 t r) :
    s.post enc P f apart fresh handsOn again W args v W' := by
  have hlt : ∀ p ∈ before, p.block < W.heap.size := fun p hp => hW.lt p hp
  have hold : ∀ p ∈ before, (fun b => decide (b < W.heap.size)) p.block = true := fun p hp => by simpa using hlt p hp
  refine ⟨ds, gs, before, [], pa, pv, hW, hres _ _ _, hargs _ hold, hvars _ hold, World.keptBut_mono (fun p hp => ⟨hp, ?_⟩) (hb.frame (· ∈ before)), fun _ => ?_⟩
  · rw [hps, List.mem_append] at hp
    exact Or.inr hp
  · obtain ⟨_, _, _, _, _, hz, hn⟩ := hW
    refine ⟨hok, _, _, ([] ++ pa) ++ pv, ⟨[] ++ pa, pv, trodAll_append (hargs _ (fun _ _ => rfl)) (hres _ _ _), hvars _ (fun _ _ => rfl), rfl, ?_, ?_⟩, ?_⟩
    · intro b off hp
      have hin : MemPlace.cell b off ∈ before := by rw [hps]; simpa using hp
      rw [hb.frozen (hlt _ hin)]
      exact hz b off hin
    · intro ha
      have := hn ha
      rw [hps] at this
      simpa using this
    · intro p hp _
      rw [hps]
      simpa using hp
end
end Go.Sim
