/-
  What the evaluator finds, the program does.
-/
import Derived.Test.YtlflfkdnpalhlaaSimJ
namespace Go.Sim
open Go.RowKit

theorem bytes_ext {a b : ByteArray} (h : a.data.toList = b.data.toList) : a = b := by
  obtain ⟨⟨x⟩⟩ := a
  obtain ⟨⟨y⟩⟩ := b
  simp at h
  subst h; rfl

theorem veq_sound : ∀ (d : Nat) (x y : Value), veq d x y = true → x = y
  | 0, _, _, h => by simp [veq] at h
  | d + 1, x, y, h => by
    have hall : ∀ (l l' : List Value), veq.all2 d l l' = true → l = l' := by
      intro l
      induction l with
      | nil => intro l' h; cases l' with
        | nil => rfl
        | cons => simp [veq.all2] at h
      | cons a l ih =>
        intro l' h
        cases l' with
        | nil => simp [veq.all2] at h
        | cons b l' =>
          simp only [veq.all2, Bool.and_eq_true] at h
          rw [veq_sound d a b h.1, ih l' h.2]
    cases x <;> cases y <;> simp only [veq] at h <;> try (cases h; done)
    · rw [eq_of_beq h]
    · simp only [Bool.and_eq_true, decide_eq_true_eq] at h
      rw [h.1, h.2]
    · rw [bytes_ext (of_decide_eq_true h)]
    · rw [of_decide_eq_true h]
    · simp only [Bool.and_eq_true, decide_eq_true_eq] at h
      rw [h.1.1, h.1.2, h.2]
    · simp only [Bool.and_eq_true, decide_eq_true_eq] at h
      rw [h.1.1, Array.ext' (hall _ _ h.1.2), Array.ext' (hall _ _ h.2)]
    · rfl
    · rfl
    · rw [Array.ext' (hall _ _ h)]

/-- A call, with less than so much fuel. -/
def CRN (T : Tab) (N : Nat) : CallR := fun g vs h v h' =>
  ∃ G m, T g = some G ∧ m < N ∧
    ((G.iso = true ∧ vs.all noAddr = true ∧ noAddr v = true ∧ h' = h ∧ ∃ h0, run T m G [.code G.body] (mkEnv G vs) [] = some (v, h0)) ∨
     (G.iso = false ∧ run T m G [.code G.body] (mkEnv G vs) h = some (v, h')))

theorem CRN.mono {T : Tab} {N N' : Nat} (h : N ≤ N') {g vs h0 v h'} (hc : CRN T N g vs h0 v h') : CRN T N' g vs h0 v h' := by
  obtain ⟨G, m, h1, h2, h3⟩ := hc
  exact ⟨G, m, h1, by omega, h3⟩
theorem OpR.mono {CR CR' : CallR} (hm : ∀ g vs h v h', CR g vs h v h' → CR' g vs h v h') {op : ROp} {e : Env} {h : Heap} {v : Value} {h' : Heap} (ho : OpR CR op e h v h') : OpR CR' op e h v h' := by
  cases op <;> first | exact ho | (obtain ⟨g, vs, h1, h2⟩ := ho; exact ⟨g, vs, h1, hm _ _ _ _ _ h2⟩)
theorem StepR.mono {CR CR' : CallR} (hm : ∀ g vs h v h', CR g vs h v h' → CR' g vs h v h') {o : ROper} {s s' : Env × Heap} (h : StepR CR o s s') : StepR CR' o s s' :=
  h.imp id fun ⟨a, v, b, c⟩ => ⟨a, v, b, c.mono hm⟩

def relevant (ps : List (Nat × Nat)) (q : Nat) : Prop := (ps.any fun p => p.1 == q || p.2 == q) = true

/-- What is booked. -/
def LogOk (ps : List (Nat × Nat)) (os : List ROper) (i : Nat) (st : Nat → Env × Heap) (L : Log) : Prop :=
  ∀ (j : Nat) o, os[j]? = some o → relevant ps (i + j) →
    (∀ n g x v, o.op = .load n g x → wanted o (st j).1 = true → loadV (st j).2 n g (ev (st j).1 x) = some v → lookL L (i + j) = some (.ld n g false (ev (st j).1 x) v)) ∧
    (o.op.cls = .W → lookL L (i + j) = some (.hv (st j).2 (st (j + 1)).2))

theorem addLog_rel {ps : List (Nat × Nat)} {i : Nat} {x : LogE} {log : Log} (h : relevant ps i) : addLog ps i x log = (i, x) :: log := by
  unfold relevant at h
  cases ps with
  | nil => simp at h
  | cons p ps => simp only [addLog]; rw [if_pos h]
theorem lookL_addLog {ps : List (Nat × Nat)} {i : Nat} {x : LogE} {log : Log} (q : Nat) (h : q ≠ i) : lookL (addLog ps i x log) q = lookL log q := by
  unfold addLog
  cases ps with
  | nil => rfl
  | cons p ps =>
    simp only
    split
    · simp only [lookL]; rw [if_neg (Ne.symm h)]
    · rfl
theorem lookL_book {ps : List (Nat × Nat)} {i : Nat} {op : ROp} {e : Env} {h h' : Heap} {v : Value} {log : Log} (q : Nat) (hq : q ≠ i) : lookL (book ps i op e h h' v log) q = lookL log q := by
  unfold book
  split
  · rfl
  · split
    · exact lookL_addLog q hq
    · rfl
theorem lookL_bookU {ps : List (Nat × Nat)} {i : Nat} {op : ROp} {h : Heap} {log : Log} (q : Nat) (hq : q ≠ i) : lookL (bookU ps i op h log) q = lookL log q := by
  unfold bookU
  split
  · rfl
  · split
    · exact lookL_addLog q hq
    · rfl

theorem relevant_cons {ps : List (Nat × Nat)} {q : Nat} (h : relevant ps q) : ∃ p r, ps = p :: r := by
  cases ps with
  | nil => simp [relevant] at h
  | cons p r => exact ⟨p, r, rfl⟩

theorem run_ops (T : Tab) (F : RFunc) : ∀ (os : List ROper) (n i : Nat) (ps : List (Nat × Nat)) (log : Log) (k : List RItem) (e : Env) (h : Heap) (r : Value × Heap), run T n F (.ops os i ps log :: k) e h = some r →
    ∃ (st : Nat → Env × Heap) (m : Nat) (L : Log), st 0 = (e, h) ∧ m < n ∧ (∀ (j : Nat) o, os[j]? = some o → StepR (CRN T n) o (st j) (st (j + 1))) ∧ run T m F k (st os.length).1 (st os.length).2 = some r ∧
      ps.all (chk1 L) = true ∧ LogOk ps os i st L ∧ ∀ q, q < i → lookL L q = lookL log q := by
  intro os
  induction os with
  | nil =>
    intro n i ps log k e h r hr
    cases n with
    | zero => simp [run] at hr
    | succ n =>
      simp only [run] at hr
      split at hr <;> try cases hr
      rename_i hch
      exact ⟨fun _ => (e, h), n, log, rfl, Nat.lt_succ_self n, fun j o hj => by simp at hj, hr, hch, fun j o hj => by simp at hj, fun q _ => rfl⟩
  | cons o os ih =>
    intro n i ps log k e h r hr
    cases n with
    | zero => simp [run] at hr
    | succ n =>
      -- how the rest goes on
      have go : ∀ (e1 : Env) (h1 : Heap) (log1 : Log), StepR (CRN T (n + 1)) o (e, h) (e1, h1) → (∀ q, q < i → lookL log1 q = lookL log q) →
          (relevant ps i → (∀ n g x v, o.op = .load n g x → wanted o e = true → loadV h n g (ev e x) = some v → lookL log1 i = some (.ld n g false (ev e x) v)) ∧ (o.op.cls = .W → lookL log1 i = some (.hv h h1))) →
          run T n F (.ops os (i + 1) ps log1 :: k) e1 h1 = some r →
          ∃ (st : Nat → Env × Heap) (m : Nat) (L : Log), st 0 = (e, h) ∧ m < n + 1 ∧ (∀ (j : Nat) o', (o :: os)[j]? = some o' → StepR (CRN T (n + 1)) o' (st j) (st (j + 1))) ∧ run T m F k (st (o :: os).length).1 (st (o :: os).length).2 = some r ∧
            ps.all (chk1 L) = true ∧ LogOk ps (o :: os) i st L ∧ ∀ q, q < i → lookL L q = lookL log q := by
        intro e1 h1 log1 hs hq hlog hrun
        obtain ⟨st, m, L, s0, s1, s2, s3, s4, s5, s6⟩ := ih n (i + 1) ps log1 k e1 h1 r hrun
        refine ⟨fun j => match j with | 0 => (e, h) | j + 1 => st j, m, L, rfl, by omega, fun j o' hj => ?_, s3, s4, fun j o' hj hrel => ?_, fun q hqi => ?_⟩
        · cases j with
          | zero => simp at hj; subst hj; simp only [s0]; exact hs
          | succ j => exact (s2 j o' (by simpa using hj)).mono (fun _ _ _ _ _ => CRN.mono (by omega))
        · cases j with
          | zero =>
            simp at hj; subst hj
            have hl := hlog (by simpa using hrel)
            have hli : lookL L (i + 0) = lookL log1 i := s6 i (by omega)
            rw [hli]
            simp only [s0]
            exact hl
          | succ j =>
            have := s5 j o' (by simpa using hj) (by rw [show i + 1 + j = i + (j + 1) by omega]; exact hrel)
            rw [show i + 1 + j = i + (j + 1) by omega] at this
            exact this
        · rw [s6 q (by omega)]; exact hq q hqi
      simp only [run] at hr
      split at hr
      · -- passed by
        rename_i hw
        refine go _ _ _ (.inl ⟨hw, rfl⟩) (fun q hq => lookL_bookU q (by omega)) (fun hrel => ⟨fun n g x v _ hw' => (by rw [hw] at hw'; cases hw'), fun hW => ?_⟩) hr
        obtain ⟨p, r', rfl⟩ := relevant_cons hrel
        simp only [bookU, hW]
        rw [addLog_rel hrel]
        simp [lookL]
      · rename_i hw
        -- what is booked of an operation that was carried out
        have hbook : ∀ (h1 : Heap) (v : Value), OpR (CRN T (n + 1)) o.op e h v h1 → relevant ps i →
            (∀ n g x v', o.op = .load n g x → wanted o e = true → loadV h n g (ev e x) = some v' → lookL (book ps i o.op e h h1 v log) i = some (.ld n g false (ev e x) v')) ∧ (o.op.cls = .W → lookL (book ps i o.op e h h1 v log) i = some (.hv h h1)) := by
          intro h1 v ho hrel
          obtain ⟨p, r', rfl⟩ := relevant_cons hrel
          refine ⟨fun n g x v' hop _ hl => ?_, fun hW => ?_⟩
          · rw [hop] at ho
            simp only [OpR, stepOp, hl] at ho
            injection ho with ho; injection ho with ho1 ho2
            simp only [book, hop, logOf]
            rw [addLog_rel hrel]
            simp [lookL, ho1]
          · cases hop : o.op <;> rw [hop] at hW <;> simp only [ROp.cls] at hW <;> (try (cases hW; done)) <;>
              (simp only [book, logOf]; rw [addLog_rel hrel]; simp [lookL])
        split at hr
        · -- a call
          rename_i f args hop
          split at hr <;> try cases hr
          rename_i g vs hce
          split at hr <;> try cases hr
          rename_i G hG
          split at hr
          · rename_i hiso
            split at hr <;> try cases hr
            rename_i hvs
            split at hr <;> try cases hr
            rename_i v h0 hrun
            split at hr <;> try cases hr
            rename_i hv
            have ho : OpR (CRN T (n + 1)) o.op e h v h := by
              rw [hop]
              exact ⟨g, vs, hce, G, n, hG, by omega, .inl ⟨hiso, hvs, hv, rfl, h0, hrun⟩⟩
            exact go _ _ _ (.inr ⟨hw, v, rfl, ho⟩) (fun q hq => lookL_book q (by omega)) (hbook h v ho) hr
          · rename_i hiso
            split at hr <;> try cases hr
            rename_i v h1 hrun
            have ho : OpR (CRN T (n + 1)) o.op e h v h1 := by
              rw [hop]
              exact ⟨g, vs, hce, G, n, hG, by omega, .inr ⟨hiso, hrun⟩⟩
            exact go _ _ _ (.inr ⟨hw, v, rfl, ho⟩) (fun q hq => lookL_book q (by omega)) (hbook h1 v ho) hr
        · rename_i hnc
          split at hr <;> try cases hr
          rename_i v h1 hs
          have ho : OpR (CRN T (n + 1)) o.op e h v h1 := by
            rw [OpR_step hnc]; exact hs
          exact go _ _ _ (.inr ⟨hw, v, rfl, ho⟩) (fun q hq => lookL_book q (by omega)) (hbook h1 v ho) hr

theorem chk_of_log {ps : List (Nat × Nat)} {os : List ROper} {st : Nat → Env × Heap} {L : Log} (hall : ps.all (chk1 L) = true) (hlog : LogOk ps os 0 st L) :
    ∀ l j, (l, j) ∈ ps → ∀ ol oj n agg x v, os[l]? = some ol → os[j]? = some oj → ol.op = .load n agg x → oj.op.cls = .W → wanted ol (st l).1 = true → loadV (st l).2 n agg (ev (st l).1 x) = some v →
      loadV (if l < j then (st (j + 1)).2 else (st j).2) n agg (ev (st l).1 x) = some v := by
  intro l j hp ol oj n agg x v h1 h2 h3 h4 h5 h6
  have hrl : relevant ps (0 + l) := by
    unfold relevant
    rw [List.any_eq_true]
    exact ⟨(l, j), hp, by simp⟩
  have hrj : relevant ps (0 + j) := by
    unfold relevant
    rw [List.any_eq_true]
    exact ⟨(l, j), hp, by simp⟩
  have e1 := (hlog l ol h1 hrl).1 n agg x v h3 h5 h6
  have e2 := (hlog j oj h2 hrj).2 h4
  simp only [Nat.zero_add] at e1 e2
  rw [List.all_eq_true] at hall
  have := hall _ hp
  simp only [chk1, e1, e2, reload] at this
  split at this
  · rename_i v' hv'
    rw [veq_sound _ _ _ this]; exact hv'
  · cases this

theorem run_len (T : Tab) : ∀ (n : Nat) (F : RFunc) (k : List RItem) (e : Env) (h : Heap) (v : Value) (h' : Heap), run T n F k e h = some (v, h') → h.length ≤ h'.length := by
  intro n
  induction n using Nat.strongRecOn with
  | _ n ih =>
    intro F k e h v h' hr
    have hfin : finishV F e h = some (v, h') → h.length ≤ h'.length := by
      intro hf
      unfold finishV at hf
      repeat' split at hf
      all_goals first | (cases hf; done) | (injection hf with hf; injection hf with _ hf; subst hf; exact Nat.le_refl _)
    have hmono : ∀ g vs h v h', CRN T n g vs h v h' → h.length ≤ h'.length := by
      rintro g vs h v h' ⟨G, m, _, hm, hor⟩
      rcases hor with ⟨_, _, _, rfl, _⟩ | ⟨_, hrun⟩
      · exact Nat.le_refl _
      · exact ih m hm _ _ _ _ _ _ hrun
    cases n with
    | zero => simp [run] at hr
    | succ n =>
      cases k with
      | nil => simp only [run] at hr; exact hfin hr
      | cons x k =>
        cases x with
        | inBlock id => simp only [run] at hr; exact ih n (by omega) _ _ _ _ _ _ hr
        | inScope => simp only [run] at hr; exact ih n (by omega) _ _ _ _ _ _ hr
        | inLoop c => simp only [run] at hr; exact ih n (by omega) _ _ _ _ _ _ hr
        | ops os i ps log =>
          obtain ⟨st, m, L, s0, s1, s2, s3, _⟩ := run_ops T F os (n + 1) i ps log k e h _ hr
          have := states_mono hmono s2 0 os.length (by omega) (Nat.le_refl _)
          rw [s0] at this
          exact Nat.le_trans this (ih m s1 _ _ _ _ _ _ s3)
        | code c =>
          cases c <;> simp only [run] at hr
          case ret => exact hfin hr
          case cond => split at hr <;> first | (cases hr; done) | exact ih n (by omega) _ _ _ _ _ _ hr
          case exit => split at hr <;> first | (cases hr; done) | exact ih n (by omega) _ _ _ _ _ _ hr
          all_goals exact ih n (by omega) _ _ _ _ _ _ hr

theorem CRN.len {T : Tab} {N : Nat} : ∀ g vs h v h', CRN T N g vs h v h' → h.length ≤ h'.length := by
  rintro g vs h v h' ⟨G, m, _, hm, hor⟩
  rcases hor with ⟨_, _, _, rfl, _⟩ | ⟨_, hrun⟩
  · exact Nat.le_refl _
  · exact run_len T m _ _ _ _ _ _ hrun
end Go.Sim
