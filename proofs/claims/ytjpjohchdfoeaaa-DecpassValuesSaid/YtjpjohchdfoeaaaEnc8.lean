/-
  The encoder's passes: what they read.
  The encoder's passes: symbols and signs.
  The encoder's passes: bits; the significance and the refinement pass.
  The order of the coefficients: both Scan functions.
  The encoder's passes: the significance and the refinement pass.
  The encoder's passes: the refinement pass.
  The encoder's passes: the cleanup pass.
  The encoder's passes: the cleanup pass, whole; a pass as Run performs it.
  Run of the encoder's passes.
-/
import Derived.Test.YtjpjohchdfoeaaaMdp
import Derived.Test.YtjpjohchdfoeaaaSimX
namespace Go.Proofs.Ytjpjohchdfoeaaa
open Go Go.Sim
set_option linter.unusedSimpArgs false
set_option linter.unusedVariables false
/-- A pass at q over the block at p (coefficients at c). -/
structure PR (h : Heap) (f : Bool) (q p c : Nat) (P : PP) (fv : Value) (b : BS) : Prop where
  blk : blk? h q = some ⟨f, [ptr p, .int .i64 b.w, .int .i64 b.h, .int .i64 P.s, .int .i64 P.o, .bool P.cz, .bool P.rw, fv]⟩
  cb : CB h f p c b
  fv : below h.length fv = true
  pok : P.Ok
  rng : b.Rng

theorem PR.frz {h : Heap} {f : Bool} {q p c : Nat} {P : PP} {fv : Value} {b : BS} (hr : PR h f q p c P fv b) : PR (frz h) true q p c P fv b :=
  ⟨blk_frz hr.blk (by simp [hr.fv, blk?_lt hr.cb.blkp]), hr.cb.frz, by rw [len_frz]; exact hr.fv, hr.pok, hr.rng⟩

theorem and1 {a : Nat} (h : a < 9223372036854775808) : andI .i64 (a : Int) 1 = ((a % 2 : Nat) : Int) := by
  unfold andI
  have h1 : (BitVec.ofInt IntKind.i64.bits (a : Int)).toNat = a := ofInt_u64 a (by omega)
  rw [BitVec.toNat_and, h1, show (BitVec.ofInt IntKind.i64.bits 1).toNat = 1 from rfl, nat_mask1]
  exact wrapN (by omega)
theorem and1u {a : Nat} (h : a < 18446744073709551616) : andI .u64 (a : Int) 1 = ((a % 2 : Nat) : Int) := by
  unfold andI
  have h1 : (BitVec.ofInt IntKind.u64.bits (a : Int)).toNat = a := ofInt_u64 a (by omega)
  rw [BitVec.toNat_and, h1, show (BitVec.ofInt IntKind.u64.bits 1).toNat = 1 from rfl, nat_mask1, IntKind.wrap_u64]
  omega
theorem natAbs_wrap {v : Int} (h1 : v < 0) (h2 : -9223372036854775808 ≤ v) : IntKind.u64.wrap (0 - IntKind.u64.wrap v) = (v.natAbs : Int) := by
  rw [IntKind.wrap_u64, IntKind.wrap_u64]; omega
theorem natAbs_wrap0 {v : Int} (h1 : ¬ v < 0) (h2 : v < 9223372036854775808) : IntKind.u64.wrap v = (v.natAbs : Int) := by
  rw [IntKind.wrap_u64]; omega
theorem wrapU {n : Nat} (h : n < 18446744073709551616) : IntKind.u64.wrap (n : Int) = n := by
  rw [IntKind.wrap_u64]; omega
theorem shr_le {a s : Nat} : a / 2 ^ s ≤ a := Nat.div_le_self _ _

section
variable {h : Heap} {f : Bool} {q p c : Nat} {P : PP} {fv : Value} {b : BS} {x y : Int} {R : Value → Heap → Prop}

theorem magnitude_c {v : Int} (h1 : -9223372036854775808 ≤ v) (h2 : v < 9223372036854775808) : Ret tab 98 [.int .i64 v] h R = R (.int .u64 (v.natAbs : Nat)) h := by
  rw [enter98, B98]
  by_cases hv : v < 0
  · have := natAbs_wrap hv h1
    rw [Int.zero_sub] at this
    simp [hv, this, fin98]
  · simp [hv, natAbs_wrap0 hv h2, fin98]

theorem bit_c (hr : PR h f q p c P fv b) : Ret tab 167 [ptr q, .int .i64 x, .int .i64 y] h R = R (.int .i64 (bitOf (b.get x y).v P.s)) h := by
  have hq := hr.frz.blk
  have hlq := blk?_lt hr.blk
  obtain ⟨r1, r2⟩ := hr.rng x y
  have hm := fun R => magnitude_c (h := Go.Sim.frz h) (R := R) (v := (b.get x y).v) (by omega) (by omega)
  have hs := hr.pok.s1
  have hw : IntKind.u64.wrap (P.s : Int) = (P.s : Int) := wrapU (by omega)
  have hs' : ¬ (P.s : Int) < 0 := by omega
  have hsh : shrI .u64 ((b.get x y).v.natAbs : Int) (P.s : Int) = (((b.get x y).v.natAbs / 2 ^ P.s : Nat) : Int) := shrN (show P.s ≤ 64 by omega)
  have hle : (b.get x y).v.natAbs / 2 ^ P.s ≤ (b.get x y).v.natAbs := shr_le
  have h63 : (b.get x y).v.natAbs < 9223372036854775808 := by omega
  have hwi : IntKind.i64.wrap (((b.get x y).v.natAbs / 2 ^ P.s : Nat) : Int) = (((b.get x y).v.natAbs / 2 ^ P.s : Nat) : Int) := wrapN (by omega)
  have ha := and1 (a := (b.get x y).v.natAbs / 2 ^ P.s) (by omega)
  rw [enter167, B167]
  unfold bitOf
  have hv : ∀ R, Ret tab 86 [ptr p, .int .i64 x, .int .i64 y] (Go.Sim.frz h) R = R (.int .i64 (b.get x y).v) (Go.Sim.frz h) := fun R => value_c hr.frz.cb
  generalize hn : (b.get x y).v.natAbs / 2 ^ P.s = n at *
  generalize (b.get x y).v.natAbs = na at *
  simp [-Int.natCast_ediv, -Int.natCast_emod, hq, hlq, hv, hm, hw, hs', hsh, hwi, ha, fin167, book, logOf, addLog, chk1, lookL, reload]

theorem neighbors_p (hr : PR h f q p c P fv b) (hi : b.inb x y) : Ret tab 165 [ptr q, .int .i64 x, .int .i64 y] h R = R (.bool (near b x y P.cz)) h := by
  have hq := hr.frz.blk
  have hlq := blk?_lt hr.blk
  obtain ⟨n1, n2, n3⟩ := nb_le b x y P.cz
  have s1 : IntKind.i64.wrap ((nbH b x y : Int) + (nbV b x y P.cz : Int)) = ((nbH b x y + nbV b x y P.cz : Nat) : Int) := wrapNN (by omega)
  have s2 : IntKind.i64.wrap (((nbH b x y + nbV b x y P.cz : Nat) : Int) + (nbD b x y P.cz : Int)) = ((nbH b x y + nbV b x y P.cz + nbD b x y P.cz : Nat) : Int) := wrapNN (by omega)
  have s3 : decide ((0 : Int) < ((nbH b x y + nbV b x y P.cz + nbD b x y P.cz : Nat) : Int)) = near b x y P.cz := by
    rw [near_eq]; congr 1; exact propext Int.natCast_pos
  rw [enter165, B165]
  generalize hn : near b x y P.cz = nn at *
  simp [-Int.natCast_add, -Int.natCast_pos, hq, hlq, neighbors_c hr.frz.cb hi, s1, s2, s3, fin165]

theorem quiet_loop (hr : PR h true q p c P fv b) {x : Int} (hx : 0 ≤ x ∧ x < b.w) {top : Int} (ht : 0 ≤ top ∧ top + 4 ≤ b.h) {k : List RItem} {R : Value → Heap → Prop} {v6 : Value}
    (hk : ∀ K3 K4 K5 K7 K8 K9 Ka Kb Kc Kd Ke Kf Kg Kh Ki Kj Kk Kl Km Kn Ko Kp Kq Kr Ks Kt Ku Kv Kw Kx Ky Kz J0 J1 J2 J3 J4 J5 J6 J7 : Value, Ok tab R168 k #[ptr q,.int .i64 x,.int .i64 top,K3,K4,K5,v6,K7,K8,K9,Ka,Kb,Kc,Kd,Ke,Kf,Kg,Kh,Ki,Kj,Kk,Kl,Km,Kn,Ko,Kp,Kq,Kr,Ks,Kt,Ku,Kv,Kw,Kx,Ky,Kz,J0,J1,J2,J3,J4,J5,J6,J7] h R = R (.bool true) h) :
    ∀ (n : Nat) (y : Int) (K3 K4 K5 K8 K9 Ka Kb Kc Kd Ke Kf Kg Kh Ki Kj Kk Kl Km Kn Ko Kp Kq Kr Ks Kt Ku Kv Kw Kx Ky Kz J0 J1 J2 J3 J4 J5 J6 J7 : Value), y + n = top + 4 → top ≤ y →
      Ok tab R168 (.inLoop L168_0 :: .inBlock 0 :: k) #[ptr q,.int .i64 x,.int .i64 top,K3,K4,K5,v6,.int .i64 y,K8,K9,Ka,Kb,Kc,Kd,Ke,Kf,Kg,Kh,Ki,Kj,Kk,Kl,Km,Kn,Ko,Kp,Kq,Kr,Ks,Kt,Ku,Kv,Kw,Kx,Ky,Kz,J0,J1,J2,J3,J4,J5,J6,J7] h R = R (.bool (quietFrom b x y P.cz n)) h := by
  intro n
  induction n with
  | zero =>
    intro y K3 K4 K5 K8 K9 Ka Kb Kc Kd Ke Kf Kg Kh Ki Kj Kk Kl Km Kn Ko Kp Kq Kr Ks Kt Ku Kv Kw Kx Ky Kz J0 J1 J2 J3 J4 J5 J6 J7 hy hty
    have hw : IntKind.i64.wrap (top + 4) = top + 4 := wrapI (by have := hr.cb.ok.h2; omega) (by have := hr.cb.ok.h2; omega)
    have hlt : ¬ y < top + 4 := by omega
    rw [ok_round, l168_0, L168_0a, L168_0b]
    simp [hw, hlt, hk, quietFrom]
  | succ n ih =>
    intro y K3 K4 K5 K8 K9 Ka Kb Kc Kd Ke Kf Kg Kh Ki Kj Kk Kl Km Kn Ko Kp Kq Kr Ks Kt Ku Kv Kw Kx Ky Kz J0 J1 J2 J3 J4 J5 J6 J7 hy hty
    have hb2 := hr.cb.ok.h2
    have hw : IntKind.i64.wrap (top + 4) = top + 4 := wrapI (by omega) (by omega)
    have hw1 : IntKind.i64.wrap (y + 1) = y + 1 := wrapI (by omega) (by omega)
    have hlt : y < top + 4 := by omega
    have hi : b.inb x y := ⟨hx.1, hx.2, by omega, by omega⟩
    have hq := hr.blk
    have ih' := fun K3 K4 K5 K8 K9 Ka Kb Kc Kd Ke Kf Kg Kh Ki Kj Kk Kl Km Kn Ko Kp Kq Kr Ks Kt Ku Kv Kw Kx Ky Kz J0 J1 J2 J3 J4 J5 J6 J7 => ih (y + 1) K3 K4 K5 K8 K9 Ka Kb Kc Kd Ke Kf Kg Kh Ki Kj Kk Kl Km Kn Ko Kp Kq Kr Ks Kt Ku Kv Kw Kx Ky Kz J0 J1 J2 J3 J4 J5 J6 J7 (by omega) (by omega)
    rw [ok_round, l168_0, L168_0a, L168_0b]
    cases hs : (b.get x y).s
    · cases ht : (b.get x y).t
      · cases hn : near b x y P.cz
        · simp [k_guard, hw, hw1, hlt, hq, significant_c hr.cb, touched_c hr.cb, neighbors_p hr hi, hs, ht, hn, ih', quietFrom, still]
        · simp [k_guard, hw, hw1, hlt, hq, significant_c hr.cb, touched_c hr.cb, neighbors_p hr hi, hs, ht, hn, quietFrom, still, fin168]
      · simp [k_guard, k_guardU, hw, hw1, hlt, hq, significant_c hr.cb, touched_c hr.cb, hs, ht, quietFrom, still, fin168]
    · simp [k_guard, k_guardU, hw, hw1, hlt, hq, significant_c hr.cb, hs, quietFrom, still, fin168]

theorem quiet_p (hr : PR h f q p c P fv b) {x top : Int} (hx : 0 ≤ x ∧ x < b.w) (ht : 0 ≤ top ∧ top < b.h) : Ret tab 168 [ptr q, .int .i64 x, .int .i64 top] h R = R (.bool (quiet b x top P.cz)) h := by
  have hq := hr.frz.blk
  have hlq := blk?_lt hr.blk
  have hb2 := hr.cb.ok.h2
  have hw : IntKind.i64.wrap (top + 4) = top + 4 := wrapI (by omega) (by omega)
  rw [enter168, B168]
  by_cases h4 : top + 4 ≤ b.h
  · have h4' : ¬ (b.h : Int) < top + 4 := by omega
    have := fun K3 K4 K5 K8 K9 Ka Kb Kc Kd Ke Kf Kg Kh Ki Kj Kk Kl Km Kn Ko Kp Kq Kr Ks Kt Ku Kv Kw Kx Ky Kz J0 J1 J2 J3 J4 J5 J6 J7 v6 R hk => quiet_loop (R := R) (v6 := v6) hr.frz hx ⟨ht.1, h4⟩ (k := [.code ((RCode.region [⟨some 6, .mov (.const (.bool true)), none⟩] []).seq .ret)]) hk 4 top K3 K4 K5 K8 K9 Ka Kb Kc Kd Ke Kf Kg Kh Ki Kj Kk Kl Km Kn Ko Kp Kq Kr Ks Kt Ku Kv Kw Kx Ky Kz J0 J1 J2 J3 J4 J5 J6 J7 (by omega) (by omega)
    simp [hq, hlq, hw, h4']
    rw [this]
    · simp [quiet, h4]
    · intro K3 K4 K5 K7 K8 K9 Ka Kb Kc Kd Ke Kf Kg Kh Ki Kj Kk Kl Km Kn Ko Kp Kq Kr Ks Kt Ku Kv Kw Kx Ky Kz J0 J1 J2 J3 J4 J5 J6 J7
      simp [fin168]
  · have h4' : (b.h : Int) < top + 4 := by omega
    simp [hq, hlq, hw, h4', quiet, h4, fin168]
end
def encS : List (Int × Nat) → List Value
  | [] => []
  | p :: l => .int .i64 p.1 :: .int .i64 p.2 :: encS l
theorem encS_append : ∀ a b, encS (a ++ b) = encS a ++ encS b
  | [], b => rfl
  | p :: a, b => by rw [List.cons_append, encS, encS, encS_append a b]; rfl
theorem encS_len : ∀ a, (encS a).length = a.length * 2
  | [] => rfl
  | p :: a => by rw [encS, List.length_cons, List.length_cons, encS_len a, List.length_cons]; omega

/-- A pass in progress. -/
structure PE (h : Heap) (q p c pb ob : Nat) (P : PP) (sv : Value) (σ : ES) : Prop where
  pr : PR h false q p c P (.func (.func 134) #[] #[ptr pb, ptr ob]) σ.b
  pbk : blk? h pb = some ⟨false, [ptr q]⟩
  obk : blk? h ob = some ⟨false, [sv]⟩
  own : OwnS h 2 sv σ.out.length (encS σ.out)
  n1 : c ≠ q ∧ c ≠ pb ∧ c ≠ ob ∧ c ≠ p
  n2 : ob ≠ q ∧ ob ≠ pb ∧ ob ≠ p
  n3 : sid sv ≠ some q ∧ sid sv ≠ some p ∧ sid sv ≠ some c ∧ sid sv ≠ some pb ∧ sid sv ≠ some ob

/-- What a part of a pass leaves of the memory. -/
structure Stp (h h' : Heap) (c ob : Nat) (sv sv' : Value) : Prop where
  len : h.length ≤ h'.length
  same : ∀ id, id < h.length → id ≠ c → id ≠ ob → sid sv ≠ some id → blk? h' id = blk? h id
  fresh : ∀ id, sid sv' = some id → sid sv = some id ∨ (h.length ≤ id ∧ id < h'.length)
theorem Stp.refl (h : Heap) (c ob : Nat) (sv : Value) : Stp h h c ob sv sv := ⟨Nat.le_refl _, fun _ _ _ _ _ => rfl, fun _ h => .inl h⟩
theorem Stp.trans {h h1 h2 : Heap} {c ob : Nat} {sv sv1 sv2 : Value} (a : Stp h h1 c ob sv sv1) (b : Stp h1 h2 c ob sv1 sv2) : Stp h h2 c ob sv sv2 := by
  refine ⟨Nat.le_trans a.len b.len, fun id h1 h2 h3 h4 => ?_, fun id hid => ?_⟩
  · rw [b.same id (Nat.lt_of_lt_of_le h1 a.len) h2 h3 (fun e => ?_), a.same id h1 h2 h3 h4]
    rcases a.fresh id e with h | h
    · exact h4 h
    · omega
  · rcases b.fresh id hid with h | h
    · rcases a.fresh id h with h | h
      · exact .inl h
      · exact .inr ⟨h.1, Nat.lt_of_lt_of_le h.2 b.len⟩
    · exact .inr ⟨Nat.le_trans a.len h.1, h.2⟩
theorem Stp.push (h : Heap) (x : Option Blk) (c ob : Nat) (sv : Value) : Stp h (h ++ [x]) c ob sv sv := ⟨by simp, fun id h1 _ _ _ => blk?_push_lt h1, fun _ h => .inl h⟩

theorem PR.keep {h h' : Heap} {q p c : Nat} {P : PP} {fv : Value} {b : BS} (hr : PR h false q p c P fv b) (hk : ∀ id, id = q ∨ id = p ∨ id = c → blk? h' id = blk? h id) (hf : below h'.length fv = true) : PR h' false q p c P fv b :=
  ⟨by rw [hk q (.inl rfl)]; exact hr.blk, ⟨by rw [hk p (.inr (.inl rfl))]; exact hr.cb.blkp, by rw [hk c (.inr (.inr rfl))]; exact hr.cb.blkc, hr.cb.ok⟩, hf, hr.pok, hr.rng⟩

section
variable {h : Heap} {q p c pb ob : Nat} {P : PP} {sv : Value} {σ : ES}

theorem PE.lts (he : PE h q p c pb ob P sv σ) : q < h.length ∧ p < h.length ∧ c < h.length ∧ pb < h.length ∧ ob < h.length :=
  ⟨blk?_lt he.pr.blk, blk?_lt he.pr.cb.blkp, blk?_lt he.pr.cb.blkc, blk?_lt he.pbk, blk?_lt he.obk⟩

/-- What is beside it does not matter. -/
theorem PE.push (he : PE h q p c pb ob P sv σ) (x : Option Blk) : PE (h ++ [x]) q p c pb ob P sv σ := by
  obtain ⟨l1, l2, l3, l4, l5⟩ := he.lts
  refine ⟨he.pr.keep (fun id hid => ?_) (by simp; omega), blk?_push he.pbk, blk?_push he.obk, he.own.of_blk (fun id _ hb => blk?_push hb), he.n1, he.n2, he.n3⟩
  rcases hid with rfl | rfl | rfl <;> exact blk?_push_lt (by assumption)
theorem PE.setNew (he : PE h q p c pb ob P sv σ) (x y : Option Blk) : PE ((h ++ [x]).set h.length y) q p c pb ob P sv σ := by
  have : (h ++ [x]).set h.length y = h ++ [y] := by rw [List.set_append_right _ _ (Nat.le_refl _)]; simp
  rw [this]; exact he.push y

/-- A coefficient is changed. -/
theorem PE.map (he : PE h q p c pb ob P sv σ) {x y : Int} (hi : σ.b.inb x y) {f : Cell → Cell} (hf : keepsV f) :
    PE (h.set c (some ⟨false, encC (σ.b.upd x y f).cs⟩)) q p c pb ob P sv (σ.map x y f) ∧ Stp h (h.set c (some ⟨false, encC (σ.b.upd x y f).cs⟩)) c ob sv sv := by
  obtain ⟨l1, l2, l3, l4, l5⟩ := he.lts
  obtain ⟨m1, m2, m3, m4⟩ := he.n1
  have hg : (σ.b.upd x y f).Good := BS.Good.upd ⟨he.pr.cb.ok, he.pr.rng⟩ hi hf
  refine ⟨⟨⟨?_, ?_, by have := he.pr.fv; simpa using this, he.pr.pok, hg.rng⟩, ?_, ?_, he.own.of_blk (fun id hid hb => ?_), he.n1, he.n2, he.n3⟩, ⟨by simp, fun id _ hc _ _ => blk?_set_ne (Ne.symm hc), fun _ h => .inl h⟩⟩
  · rw [blk?_set_ne m1]; exact he.pr.blk
  · exact he.pr.cb.set rfl rfl hg.ok
  · rw [blk?_set_ne m2]; exact he.pbk
  · rw [blk?_set_ne m3]; exact he.obk
  · rw [blk?_set_ne (fun e => he.n3.2.2.1 (by rw [e]; exact hid))]; exact hb

/-- A symbol. -/
theorem emit_c (he : PE h q p c pb ob P sv σ) (hn : σ.out.length < 1000000) (ctx : Int) (bit : Nat) :
    ∃ sv' h', (∀ R, Ret tab 134 [.int .i64 ctx, .int .i64 bit, ptr pb, ptr ob] h R = R (.tuple #[]) h') ∧ PE h' q p c pb ob P sv' (σ.emit P ctx bit) ∧ Stp h h' c ob sv sv' := by
  obtain ⟨l1, l2, l3, l4, l5⟩ := he.lts
  obtain ⟨m1, m2, m3, m4⟩ := he.n1
  obtain ⟨m5, m6, m7⟩ := he.n2
  obtain ⟨m8, m9, m10, m11, m12⟩ := he.n3
  generalize hcx : (if P.rw = true then (-1 : Int) else ctx) = cx
  have hsl : Sl (h ++ [some ⟨false, [.int .i64 cx, .int .i64 bit]⟩]) 2 (.slice (some ⟨h.length, 0, none⟩) 1 2) 1 [.int .i64 cx, .int .i64 bit] :=
    ⟨by simp, .inr ⟨h.length, 0, rfl, .inr ⟨_, blk?_push_eq, by simp, by simp⟩⟩⟩
  have hp := he.push (some ⟨false, [.int .i64 cx, .int .i64 bit]⟩)
  obtain ⟨H, ha, hK, hHl, hHs⟩ := own_append (bytes := 16) hp.own hsl (by unfold roomCells; omega) (by omega) (by omega)
  simp only [List.length_append, List.length_singleton] at ha hK hHl hHs
  have hk : ∀ id, id < h.length → sid sv ≠ some id → blk? H id = blk? h id := fun id hid hne => by rw [hHs id (by omega) hne, blk?_push_lt hid]
  have hHo : blk? H ob = some ⟨false, [sv]⟩ := by rw [hk ob l5 m12]; exact he.obk
  have hloH := blk?_lt hHo
  refine ⟨.slice (some ⟨h.length + 1, 0, none⟩) (σ.out.length + 1) 2, H.set ob (some ⟨false, [.slice (some ⟨h.length + 1, 0, none⟩) (σ.out.length + 1) 2]⟩), fun R => ?_, ⟨he.pr.keep (fun id hid => ?_) ?_, ?_, ?_, ?_, he.n1, he.n2, ?_⟩, ⟨?_, ?_, ?_⟩⟩
  · have hpb := he.pbk
    have hpq := he.pr.blk
    have hob := he.obk
    rw [enter134, B134]
    cases hrw : P.rw
    · simp only [hrw, Bool.false_eq_true, if_false] at hcx
      subst hcx
      rw [hrw] at hpq
      simp [hpb, hpq, hob, repL, ha, hHo, fin134]
    · simp only [hrw, if_true] at hcx
      subst hcx
      rw [hrw] at hpq
      simp [hpb, hpq, hob, repL, ha, hHo, fin134]
  · rcases hid with rfl | rfl | rfl
    · rw [blk?_set_ne m5, hk _ l1 m8]
    · rw [blk?_set_ne m7, hk _ l2 m9]
    · rw [blk?_set_ne (Ne.symm m3), hk _ l3 m10]
  · simp; omega
  · rw [blk?_set_ne m6, hk _ l4 m11]; exact he.pbk
  · rw [blk?_set_eq hloH]
  · refine ⟨by rw [encS_len], .inr ⟨h.length + 1, by simp [ES.emit], ?_⟩⟩
    rw [blk?_set_ne (by omega), hK]
    simp [ES.emit, encS_append, encS, hcx]
  · simp [sid]; omega
  · simp; omega
  · intro id hid _ h3 h4
    rw [blk?_set_ne (Ne.symm h3), hk id hid h4]
  · intro id hid
    simp [sid] at hid
    exact .inr (by simp; omega)

theorem xor01 {a b : Nat} (ha : a ≤ 1) (hb : b ≤ 1) : xorI .i64 (a : Int) (b : Int) = (((a + b) % 2 : Nat) : Int) := by
  have h1 : a = 0 ∨ a = 1 := by omega
  have h2 : b = 0 ∨ b = 1 := by omega
  rcases h1 with rfl | rfl <;> rcases h2 with rfl | rfl <;> decide
theorem negOf_le (v : Int) : negOf v ≤ 1 := by unfold negOf; split <;> omega
theorem signFlip_le (a b : Int) : signFlip a b ≤ 1 := by unfold signFlip; split <;> omega
theorem joint_range (s t : Int) : joint s t = -1 ∨ joint s t = 0 ∨ joint s t = 1 := by unfold joint; omega

/-- The sign of a coefficient. -/
theorem sign_p (he : PE h q p c pb ob P sv σ) (hn : σ.out.length < 1000000) {x y : Int} (hi : σ.b.inb x y) :
    ∃ sv' h', (∀ R, Ret tab 191 [ptr q, .int .i64 x, .int .i64 y] h R = R (.tuple #[]) h') ∧ PE h' q p c pb ob P sv' (σ.sign P x y) ∧ Stp h h' c ob sv sv' := by
  obtain ⟨sv1, h1, e1, p1, s1⟩ := emit_c he hn (signCtx (sgH σ.b x y) (sgV σ.b x y P.cz)) (signBit P σ.b x y)
  obtain ⟨p2, s2⟩ := p1.map (x := x) (y := y) hi kv_mark
  refine ⟨sv1, _, fun R => ?_, p2, s1.trans s2⟩
  have hq := he.pr.blk
  have hq1 := p1.pr.blk
  have hm := fun R => mark_c (R := R) p1.pr.cb (x := x) (y := y) hi
  have hc := fun R => ctxSign_c (h := h) (R := R) (joint_range (sgn σ.b (x - 1) y) (sgn σ.b (x + 1) y)) (joint_range (sgn σ.b x (y - 1)) (if (!P.cz || y % 4 != 3) = true then sgn σ.b x (y + 1) else 0))
  change ∀ R, Ret tab _ [.int .i64 (sgH σ.b x y), .int .i64 (sgV σ.b x y P.cz)] h R = R (.tuple #[.int .i64 (signCtx (sgH σ.b x y) (sgV σ.b x y P.cz)), .int .i64 (signFlip (sgH σ.b x y) (sgV σ.b x y P.cz))]) h at hc
  have hv := fun R => value_c (R := R) (x := x) (y := y) he.pr.cb
  have hs := fun R => signs_c (R := R) he.pr.cb hi P.cz
  have hx := xor01 (negOf_le (σ.b.get x y).v) (signFlip_le (sgH σ.b x y) (sgV σ.b x y P.cz))
  have hx0 := xor01 (negOf_le (σ.b.get x y).v) (Nat.zero_le 1)
  have hmm : (fun z : Cell => ({ z with s := true } : Cell)) = mark := rfl
  rw [hmm] at hm
  rw [enter191, B191]
  unfold signBit at e1
  simp only [ES.emit_b] at *
  generalize sgH σ.b x y = H at *
  generalize sgV σ.b x y P.cz = V at *
  by_cases hneg : (σ.b.get x y).v < 0
  · have hno : negOf (σ.b.get x y).v = 1 := by simp [negOf, hneg]
    rw [hno] at hx hx0 e1
    simp only [Int.natCast_one, Int.natCast_zero] at hx hx0
    cases hrw : P.rw
    · simp only [hrw, Bool.false_eq_true, if_false] at e1
      rw [hrw] at hq
      simp [-Int.natCast_emod, -Int.natCast_add] at e1
      simp [-Int.natCast_emod, -Int.natCast_add, hq, hq1, hv, hneg, hs, hc, hx, e1, hm, fin191]
    · simp only [hrw, if_true] at e1
      rw [hrw] at hq
      simp [-Int.natCast_emod, -Int.natCast_add] at e1
      simp [-Int.natCast_emod, -Int.natCast_add, hq, hq1, hv, hneg, hs, hc, hx0, e1, hm, fin191]
  · have hno : negOf (σ.b.get x y).v = 0 := by simp [negOf, hneg]
    rw [hno] at hx hx0 e1
    simp only [Int.natCast_one, Int.natCast_zero] at hx hx0
    cases hrw : P.rw
    · simp only [hrw, Bool.false_eq_true, if_false] at e1
      rw [hrw] at hq
      simp [-Int.natCast_emod, -Int.natCast_add] at e1
      simp [-Int.natCast_emod, -Int.natCast_add, hq, hq1, hv, hneg, hs, hc, hx, e1, hm, fin191]
    · simp only [hrw, if_true] at e1
      rw [hrw] at hq
      simp [-Int.natCast_emod, -Int.natCast_add] at e1
      simp [-Int.natCast_emod, -Int.natCast_add, hq, hq1, hv, hneg, hs, hc, hx0, e1, hm, fin191]
end
def encP : List (Int × Int) → List Value
  | [] => []
  | p :: l => .int .i64 p.1 :: .int .i64 p.2 :: encP l
theorem encP_len : ∀ a, (encP a).length = a.length * 2
  | [] => rfl
  | p :: a => by rw [encP, List.length_cons, List.length_cons, encP_len a, List.length_cons]; omega
theorem encP_append : ∀ a b, encP (a ++ b) = encP a ++ encP b
  | [], b => rfl
  | p :: a, b => by rw [List.cons_append, encP, encP, encP_append a b]; rfl
theorem encP_get : ∀ (l : List (Int × Int)) (i : Nat) (h : i < l.length), (encP l)[i * 2]? = some (.int .i64 l[i].1) ∧ (encP l)[i * 2 + 1]? = some (.int .i64 l[i].2)
  | [], i, h => by simp at h
  | p :: l, 0, _ => by simp [encP]
  | p :: l, i + 1, h => by
    obtain ⟨a, b⟩ := encP_get l i (by simpa using h)
    rw [encP, show (i + 1) * 2 + 1 = i * 2 + 1 + 1 + 1 by omega, show (i + 1) * 2 = i * 2 + 1 + 1 by omega]
    simpa using ⟨a, b⟩

/-- A row of points beside a pass. -/
structure Far (h : Heap) (s : Value) (l : List (Int × Int)) (c ob : Nat) (sv : Value) : Prop where
  sl : Sl h 2 s l.length (encP l)
  far : ∀ id, sid s = some id → id < h.length ∧ id ≠ c ∧ id ≠ ob ∧ sid sv ≠ some id
theorem Far.stp {h h' : Heap} {s : Value} {l : List (Int × Int)} {c ob : Nat} {sv sv' : Value} (hf : Far h s l c ob sv) (hs : Stp h h' c ob sv sv') : Far h' s l c ob sv' := by
  refine ⟨hf.sl.of_sid fun id b hid hb => ?_, fun id hid => ?_⟩
  · obtain ⟨a1, a2, a3, a4⟩ := hf.far id hid
    rw [hs.same id a1 a2 a3 a4]; exact hb
  · obtain ⟨a1, a2, a3, a4⟩ := hf.far id hid
    refine ⟨Nat.lt_of_lt_of_le a1 hs.len, a2, a3, fun e => ?_⟩
    rcases hs.fresh id e with h | h
    · exact a4 h
    · omega
/-- Two cells in a row. -/
theorem two {l : List Value} {m : Nat} {x y : Value} (h1 : l[m]? = some x) (h2 : l[m + 1]? = some y) : (l.drop m).take 2 = [x, y] ∧ m + 2 ≤ l.length := by
  have hl := (List.getElem?_eq_some_iff.1 h2).1
  refine ⟨?_, by omega⟩
  apply List.ext_getElem?
  intro j
  rw [List.getElem?_take]
  match j with
  | 0 => simpa using h1
  | 1 => simpa using h2
  | j + 2 => rw [if_neg (by omega)]; simp
theorem Far.get {h : Heap} {s : Value} {l : List (Int × Int)} {c ob : Nat} {sv : Value} (hf : Far h s l c ob sv) {i : Nat} (hi : i < l.length) :
    ∃ id off b, s = .slice (some ⟨id, off, none⟩) l.length 2 ∧ blk? h id = some b ∧ (b.cells.drop (off + i * 2)).take 2 = [.int .i64 l[i].1, .int .i64 l[i].2] ∧ off + i * 2 + 2 ≤ b.cells.length := by
  obtain ⟨id, off, b, rfl, hb, hc⟩ := hf.sl.get hi
  obtain ⟨g0, g1⟩ := encP_get l i hi
  have c0 := hc 0 (by omega)
  have c1 := hc 1 (by omega)
  rw [Nat.add_zero, Nat.add_zero, g0] at c0
  rw [g1] at c1
  obtain ⟨ht, hle⟩ := two c0 c1
  exact ⟨id, off, b, rfl, hb, ht, hle⟩

section
variable {h : Heap} {q p c pb ob : Nat} {P : PP} {sv : Value} {σ : ES}

/-- The bit of a coefficient, and its sign. -/
theorem code_p (he : PE h q p c pb ob P sv σ) (hn : σ.out.length + 2 < 1000000) {x y : Int} (hi : σ.b.inb x y) :
    ∃ sv' h', (∀ R, Ret tab 166 [ptr q, .int .i64 x, .int .i64 y] h R = R (.tuple #[]) h') ∧ PE h' q p c pb ob P sv' (σ.code P x y) ∧ Stp h h' c ob sv sv' := by
  obtain ⟨sv1, h1, e1, p1, s1⟩ := emit_c he (by omega) (ctxOf P σ.b x y) (bitOf (σ.b.get x y).v P.s)
  have hq := he.pr.blk
  have hq1 := p1.pr.blk
  obtain ⟨n1, n2, n3⟩ := nb_le σ.b x y P.cz
  have hnb := fun R => neighbors_c (R := R) he.pr.cb hi P.cz
  have hbit := fun R => bit_c (R := R) (x := x) (y := y) he.pr
  have hsg := fun R => significance_c (h := h) (R := R) he.pr.pok.o1 n1 n2 n3
  change ∀ R, Ret tab _ _ h R = R (.int .i64 (ctxOf P σ.b x y)) h at hsg
  unfold ES.code
  by_cases hb : bitOf (σ.b.get x y).v P.s = 1
  · obtain ⟨sv2, h2, e2, p2, s2⟩ := sign_p p1 (by simp [ES.emit]; omega) hi
    rw [if_pos hb]
    refine ⟨sv2, h2, fun R => ?_, p2, s1.trans s2⟩
    rw [hb] at hbit e1
    rw [enter166, B166]
    simp at hbit e1
    simp [hq, hq1, hnb, hbit, hsg, e1, e2, fin166, book, logOf, addLog, chk1, lookL, reload]
  · have hb0 : bitOf (σ.b.get x y).v P.s = 0 := by unfold bitOf at *; omega
    rw [if_neg hb]
    refine ⟨sv1, h1, fun R => ?_, p1, s1⟩
    rw [hb0] at hbit e1
    rw [enter166, B166]
    simp at hbit e1
    simp [hq, hq1, hnb, hbit, hsg, e1, fin166, book, logOf, addLog, chk1, lookL, reload]
end
/-- A row of points that is being made. -/
structure Mk (B : Nat) (h0 h : Heap) (s : Value) (l : List (Int × Int)) : Prop where
  own : OwnS h 2 s l.length (encP l)
  low : ∀ id, id < B → blk? h id = blk? h0 id
  len : B ≤ h.length
  far : ∀ id, sid s = some id → B ≤ id

theorem Mk.push {B : Nat} {h0 h : Heap} {s : Value} {l : List (Int × Int)} (m : Mk B h0 h s l) (hl : l.length < 100000) (x y : Int) :
    ∃ s' H, appendV (h ++ [some ⟨false, [.int .i64 x, .int .i64 y]⟩]) 2 16 s (.slice (some ⟨h.length, 0, none⟩) 1 2) = some (s', H) ∧ Mk B h0 H s' (l ++ [(x, y)]) := by
  have hsl : Sl (h ++ [some ⟨false, [.int .i64 x, .int .i64 y]⟩]) 2 (.slice (some ⟨h.length, 0, none⟩) 1 2) 1 [.int .i64 x, .int .i64 y] :=
    ⟨by simp, .inr ⟨h.length, 0, rfl, .inr ⟨_, blk?_push_eq, by simp, by simp⟩⟩⟩
  have ho : OwnS (h ++ [some ⟨false, [.int .i64 x, .int .i64 y]⟩]) 2 s l.length (encP l) := m.own.of_blk fun id _ hb => blk?_push hb
  obtain ⟨H, ha, hK, hHl, hHs⟩ := own_append (bytes := 16) ho hsl (by unfold roomCells; omega) (by omega) (by omega)
  simp only [List.length_append, List.length_singleton] at ha hK hHl hHs
  have hlen := m.len
  refine ⟨_, H, ha, ⟨⟨by rw [encP_len], .inr ⟨h.length + 1, by simp, ?_⟩⟩, fun id hid => ?_, by omega, fun id hid => ?_⟩⟩
  · rw [hK, encP_append]; rfl
  · rw [hHs id (by omega) (fun e => by have := m.far id e; omega), blk?_push_lt (by omega)]
    exact m.low id hid
  · simp [sid] at hid; omega

theorem min4 {top : Int} {hh : Nat} (h0 : 0 ≤ top) : (if (hh : Int) < top + 4 then (hh : Int) else top + 4) = min (top + 4) (hh : Int) := by split <;> omega

theorem sized_c {w hh : Nat} (w1 : 1 ≤ w) (w2 : w ≤ 64) (h1 : 1 ≤ hh) (h2 : hh ≤ 64) {h : Heap} {R : Value → Heap → Prop} : Ret tab 96 [.int .i64 w, .int .i64 hh] h R = R (.bool true) h := by
  have a1 : (1 : Int) ≤ w := by omega
  have a2 : (w : Int) ≤ 64 := by omega
  have a3 : (1 : Int) ≤ hh := by omega
  have a4 : (hh : Int) ≤ 64 := by omega
  rw [enter96, B96]
  simp [k_guard, a1, a2, a3, a4, fin96]

theorem sized_r {w hh : Nat} (w1 : 1 ≤ w) (w2 : w ≤ 64) (h1 : 1 ≤ hh) (h2 : hh ≤ 64) {h : Heap} {R : Value → Heap → Prop} : Ret tab 115 [.int .i64 w, .int .i64 hh] h R = R (.bool true) h := by
  have a1 : (1 : Int) ≤ w := by omega
  have a2 : (w : Int) ≤ 64 := by omega
  have a3 : (1 : Int) ≤ hh := by omega
  have a4 : (hh : Int) ≤ 64 := by omega
  rw [enter115, B115]
  simp [k_guard, a1, a2, a3, a4, fin115]

section
variable {B w hh : Nat} {h0 : Heap} {R : Value → Heap → Prop} {k : List RItem} {v4 : Value}
theorem scan0_c (hh2 : hh ≤ 64) {top x : Int} (ht : 0 ≤ top ∧ top < 64) :
    ∀ (n : Nat) (y : Int) (h : Heap) (s : Value) (l : List (Int × Int)) (K2 K3 K9 Ka Kb Kc Kd Ke Kf Kg Kh Ki Kj Kk Kl Km Kn Ko Kp Kq Kr Ks Kt Ku Kv Kw Kx Ky Kz J0 J1 J2 J3 J4 J5 J6 : Value), y + n = min (top + 4) hh → top ≤ y → Mk B h0 h s l → l.length + n ≤ 20000 →
      (∀ (h' : Heap) (s' : Value) (y' : Int) (K2 K3 K9 Ka Kb Kc Kd Ke Kf Kg Kh Ki Kj Kk Kl Km Kn Ko Kp Kq Kr Ks Kt Ku Kv Kw Kx Ky Kz J0 J1 J2 J3 J4 J5 J6 : Value), Mk B h0 h' s' (l ++ colPts x y n) → Ok tab R119 k #[.int .i64 w,.int .i64 hh,K2,K3,v4,s',.int .i64 top,.int .i64 x,.int .i64 y',K9,Ka,Kb,Kc,Kd,Ke,Kf,Kg,Kh,Ki,Kj,Kk,Kl,Km,Kn,Ko,Kp,Kq,Kr,Ks,Kt,Ku,Kv,Kw,Kx,Ky,Kz,J0,J1,J2,J3,J4,J5,J6] h' R) →
      Ok tab R119 (.inLoop L119_0 :: .inBlock 4 :: k) #[.int .i64 w,.int .i64 hh,K2,K3,v4,s,.int .i64 top,.int .i64 x,.int .i64 y,K9,Ka,Kb,Kc,Kd,Ke,Kf,Kg,Kh,Ki,Kj,Kk,Kl,Km,Kn,Ko,Kp,Kq,Kr,Ks,Kt,Ku,Kv,Kw,Kx,Ky,Kz,J0,J1,J2,J3,J4,J5,J6] h R := by
  intro n
  induction n with
  | zero =>
    intro y h s l K2 K3 K9 Ka Kb Kc Kd Ke Kf Kg Kh Ki Kj Kk Kl Km Kn Ko Kp Kq Kr Ks Kt Ku Kv Kw Kx Ky Kz J0 J1 J2 J3 J4 J5 J6 hy hty m hl hk
    have hw : IntKind.i64.wrap (top + 4) = top + 4 := wrapI (by omega) (by omega)
    have hlt : ¬ y < min (top + 4) (hh : Int) := by omega
    have := hk h s y
    rw [colPts, List.append_nil] at this
    rw [ok_round, l119_0, L119_0a, L119_0b]
    simp [hw, fold1, foldO, min2V, min4 (hh := hh) ht.1]
    simp [hlt]
    exact this _ _ _ _ _ _ _ _ _ _ _ _ _ _ _ _ _ _ _ _ _ _ _ _ _ _ _ _ _ _ _ _ _ _ _ _ m
  | succ n ih =>
    intro y h s l K2 K3 K9 Ka Kb Kc Kd Ke Kf Kg Kh Ki Kj Kk Kl Km Kn Ko Kp Kq Kr Ks Kt Ku Kv Kw Kx Ky Kz J0 J1 J2 J3 J4 J5 J6 hy hty m hl hk
    have hw : IntKind.i64.wrap (top + 4) = top + 4 := wrapI (by omega) (by omega)
    have hw1 : IntKind.i64.wrap (y + 1) = y + 1 := wrapI (by omega) (by omega)
    have hlt : y < min (top + 4) (hh : Int) := by omega
    obtain ⟨s', H, ha, m'⟩ := m.push (by omega) x y
    rw [ok_round, l119_0, L119_0a, L119_0b]
    simp [hw, fold1, foldO, min2V, min4 (hh := hh) ht.1]
    simp [hlt, hw1, repL, ha]
    refine ih (y + 1) H s' (l ++ [(x, y)]) _ _ _ _ _ _ _ _ _ _ _ _ _ _ _ _ _ _ _ _ _ _ _ _ _ _ _ _ _ _ _ _ _ _ _ _ (by omega) (by omega) m' (by simp; omega) ?_
    intro h' s'' y' K2 K3 K9 Ka Kb Kc Kd Ke Kf Kg Kh Ki Kj Kk Kl Km Kn Ko Kp Kq Kr Ks Kt Ku Kv Kw Kx Ky Kz J0 J1 J2 J3 J4 J5 J6 m2
    exact hk h' s'' y' _ _ _ _ _ _ _ _ _ _ _ _ _ _ _ _ _ _ _ _ _ _ _ _ _ _ _ _ _ _ _ _ _ _ _ _ (by rw [colPts]; simpa using m2)
theorem scan1_c (hh2 : hh ≤ 64) (hw2 : w ≤ 64) {top : Int} (ht : 0 ≤ top ∧ top < 64) :
    ∀ (n : Nat) (x : Int) (h : Heap) (s : Value) (l : List (Int × Int)) (K2 K3 K8 K9 Ka Kb Kc Kd Ke Kf Kg Kh Ki Kj Kk Kl Km Kn Ko Kp Kq Kr Ks Kt Ku Kv Kw Kx Ky Kz J0 J1 J2 J3 J4 J5 J6 : Value), x + n = w → 0 ≤ x → Mk B h0 h s l → l.length + 4 * n ≤ 20000 →
      (∀ (h' : Heap) (s' : Value) (x' : Int) (K2 K3 K8 K9 Ka Kb Kc Kd Ke Kf Kg Kh Ki Kj Kk Kl Km Kn Ko Kp Kq Kr Ks Kt Ku Kv Kw Kx Ky Kz J0 J1 J2 J3 J4 J5 J6 : Value), Mk B h0 h' s' (l ++ stripePts hh x top n) → Ok tab R119 k #[.int .i64 w,.int .i64 hh,K2,K3,v4,s',.int .i64 top,.int .i64 x',K8,K9,Ka,Kb,Kc,Kd,Ke,Kf,Kg,Kh,Ki,Kj,Kk,Kl,Km,Kn,Ko,Kp,Kq,Kr,Ks,Kt,Ku,Kv,Kw,Kx,Ky,Kz,J0,J1,J2,J3,J4,J5,J6] h' R) →
      Ok tab R119 (.inLoop L119_1 :: .inBlock 2 :: k) #[.int .i64 w,.int .i64 hh,K2,K3,v4,s,.int .i64 top,.int .i64 x,K8,K9,Ka,Kb,Kc,Kd,Ke,Kf,Kg,Kh,Ki,Kj,Kk,Kl,Km,Kn,Ko,Kp,Kq,Kr,Ks,Kt,Ku,Kv,Kw,Kx,Ky,Kz,J0,J1,J2,J3,J4,J5,J6] h R := by
  intro n
  induction n with
  | zero =>
    intro x h s l K2 K3 K8 K9 Ka Kb Kc Kd Ke Kf Kg Kh Ki Kj Kk Kl Km Kn Ko Kp Kq Kr Ks Kt Ku Kv Kw Kx Ky Kz J0 J1 J2 J3 J4 J5 J6 hx h0x m hl hk
    have hlt : ¬ x < (w : Int) := by omega
    have := hk h s x
    rw [stripePts, List.append_nil] at this
    rw [ok_round, l119_1, L119_1a, L119_1b]
    simp [hlt]
    exact this _ _ _ _ _ _ _ _ _ _ _ _ _ _ _ _ _ _ _ _ _ _ _ _ _ _ _ _ _ _ _ _ _ _ _ _ _ m
  | succ n ih =>
    intro x h s l K2 K3 K8 K9 Ka Kb Kc Kd Ke Kf Kg Kh Ki Kj Kk Kl Km Kn Ko Kp Kq Kr Ks Kt Ku Kv Kw Kx Ky Kz J0 J1 J2 J3 J4 J5 J6 hx h0x m hl hk
    have hw1 : IntKind.i64.wrap (x + 1) = x + 1 := wrapI (by omega) (by omega)
    have hlt : x < (w : Int) := by omega
    rw [ok_round, l119_1, L119_1a, L119_1b]
    simp [hlt]
    by_cases hth : top ≤ hh
    · refine scan0_c hh2 ht (min (top + 4) (hh : Int) - top).toNat top h s l _ _ _ _ _ _ _ _ _ _ _ _ _ _ _ _ _ _ _ _ _ _ _ _ _ _ _ _ _ _ _ _ _ _ _ _ (by omega) (by omega) m (by omega) ?_
      intro h' s' y' K2 K3 K9 Ka Kb Kc Kd Ke Kf Kg Kh Ki Kj Kk Kl Km Kn Ko Kp Kq Kr Ks Kt Ku Kv Kw Kx Ky Kz J0 J1 J2 J3 J4 J5 J6 m1
      simp [hw1]
      refine ih (x + 1) h' s' _ _ _ _ _ _ _ _ _ _ _ _ _ _ _ _ _ _ _ _ _ _ _ _ _ _ _ _ _ _ _ _ _ _ _ _ _ _ (by omega) (by omega) m1 (by rw [List.length_append, colPts_len]; omega) ?_
      intro h'' s'' x' K2 K3 K8 K9 Ka Kb Kc Kd Ke Kf Kg Kh Ki Kj Kk Kl Km Kn Ko Kp Kq Kr Ks Kt Ku Kv Kw Kx Ky Kz J0 J1 J2 J3 J4 J5 J6 m2
      exact hk h'' s'' x' _ _ _ _ _ _ _ _ _ _ _ _ _ _ _ _ _ _ _ _ _ _ _ _ _ _ _ _ _ _ _ _ _ _ _ _ _ (by rw [stripePts]; simpa using m2)
    · have hw : IntKind.i64.wrap (top + 4) = top + 4 := wrapI (by omega) (by omega)
      have hlt2 : ¬ top < min (top + 4) (hh : Int) := by omega
      rw [ok_round, l119_0, L119_0a, L119_0b]
      simp [hw, fold1, foldO, min2V, min4 (hh := hh) ht.1]
      simp [hlt2, hw1]
      refine ih (x + 1) h s _ _ _ _ _ _ _ _ _ _ _ _ _ _ _ _ _ _ _ _ _ _ _ _ _ _ _ _ _ _ _ _ _ _ _ _ _ _ (by omega) (by omega) m (by omega) ?_
      intro h'' s'' x' K2 K3 K8 K9 Ka Kb Kc Kd Ke Kf Kg Kh Ki Kj Kk Kl Km Kn Ko Kp Kq Kr Ks Kt Ku Kv Kw Kx Ky Kz J0 J1 J2 J3 J4 J5 J6 m2
      refine hk h'' s'' x' _ _ _ _ _ _ _ _ _ _ _ _ _ _ _ _ _ _ _ _ _ _ _ _ _ _ _ _ _ _ _ _ _ _ _ _ _ ?_
      rw [stripePts, show (min (top + 4) (hh : Int) - top).toNat = 0 by omega]
      simpa [colPts] using m2
theorem scan2_c (hh2 : hh ≤ 64) (hw2 : w ≤ 64) :
    ∀ (n : Nat) (top : Int) (h : Heap) (s : Value) (l : List (Int × Int)) (K2 K3 K7 K8 K9 Ka Kb Kc Kd Ke Kf Kg Kh Ki Kj Kk Kl Km Kn Ko Kp Kq Kr Ks Kt Ku Kv Kw Kx Ky Kz J0 J1 J2 J3 J4 J5 J6 : Value), (hh : Int) ≤ top + 4 * n → top + 4 * n ≤ hh + 3 → 0 ≤ top → Mk B h0 h s l → l.length + 4 * w * n ≤ 20000 →
      (∀ (h' : Heap) (s' : Value) (K2 K3 K6 K7 K8 K9 Ka Kb Kc Kd Ke Kf Kg Kh Ki Kj Kk Kl Km Kn Ko Kp Kq Kr Ks Kt Ku Kv Kw Kx Ky Kz J0 J1 J2 J3 J4 J5 J6 : Value), Mk B h0 h' s' (l ++ scanPts w hh top n) → Ok tab R119 k #[.int .i64 w,.int .i64 hh,K2,K3,v4,s',K6,K7,K8,K9,Ka,Kb,Kc,Kd,Ke,Kf,Kg,Kh,Ki,Kj,Kk,Kl,Km,Kn,Ko,Kp,Kq,Kr,Ks,Kt,Ku,Kv,Kw,Kx,Ky,Kz,J0,J1,J2,J3,J4,J5,J6] h' R) →
      Ok tab R119 (.inLoop L119_2 :: .inBlock 0 :: k) #[.int .i64 w,.int .i64 hh,K2,K3,v4,s,.int .i64 top,K7,K8,K9,Ka,Kb,Kc,Kd,Ke,Kf,Kg,Kh,Ki,Kj,Kk,Kl,Km,Kn,Ko,Kp,Kq,Kr,Ks,Kt,Ku,Kv,Kw,Kx,Ky,Kz,J0,J1,J2,J3,J4,J5,J6] h R := by
  intro n
  induction n with
  | zero =>
    intro top h s l K2 K3 K7 K8 K9 Ka Kb Kc Kd Ke Kf Kg Kh Ki Kj Kk Kl Km Kn Ko Kp Kq Kr Ks Kt Ku Kv Kw Kx Ky Kz J0 J1 J2 J3 J4 J5 J6 hx hx2 h0x m hl hk
    have hlt : ¬ top < (hh : Int) := by omega
    have := hk h s
    rw [scanPts, List.append_nil] at this
    rw [ok_round, l119_2, L119_2a, L119_2b]
    simp [hlt]
    exact this _ _ _ _ _ _ _ _ _ _ _ _ _ _ _ _ _ _ _ _ _ _ _ _ _ _ _ _ _ _ _ _ _ _ _ _ _ _ _ m
  | succ n ih =>
    intro top h s l K2 K3 K7 K8 K9 Ka Kb Kc Kd Ke Kf Kg Kh Ki Kj Kk Kl Km Kn Ko Kp Kq Kr Ks Kt Ku Kv Kw Kx Ky Kz J0 J1 J2 J3 J4 J5 J6 hx hx2 h0x m hl hk
    have hw1 : IntKind.i64.wrap (top + 4) = top + 4 := wrapI (by omega) (by omega)
    have hlt : top < (hh : Int) := by omega
    have hmul : 4 * w * (n + 1) = 4 * w * n + 4 * w := by rw [Nat.mul_add]; omega
    rw [ok_round, l119_2, L119_2a, L119_2b]
    simp [hlt]
    refine scan1_c hh2 hw2 ⟨h0x, by omega⟩ w 0 h s l _ _ _ _ _ _ _ _ _ _ _ _ _ _ _ _ _ _ _ _ _ _ _ _ _ _ _ _ _ _ _ _ _ _ _ _ _ (by omega) (by omega) m (by omega) ?_
    intro h' s' x' K2 K3 K8 K9 Ka Kb Kc Kd Ke Kf Kg Kh Ki Kj Kk Kl Km Kn Ko Kp Kq Kr Ks Kt Ku Kv Kw Kx Ky Kz J0 J1 J2 J3 J4 J5 J6 m1
    simp [hw1]
    refine ih (top + 4) h' s' _ _ _ _ _ _ _ _ _ _ _ _ _ _ _ _ _ _ _ _ _ _ _ _ _ _ _ _ _ _ _ _ _ _ _ _ _ _ _ (by omega) (by omega) (by omega) m1 (by rw [List.length_append]; have := stripePts_len hh w 0 top; omega) ?_
    intro h'' s'' K2 K3 K6 K7 K8 K9 Ka Kb Kc Kd Ke Kf Kg Kh Ki Kj Kk Kl Km Kn Ko Kp Kq Kr Ks Kt Ku Kv Kw Kx Ky Kz J0 J1 J2 J3 J4 J5 J6 m2
    exact hk h'' s'' _ _ _ _ _ _ _ _ _ _ _ _ _ _ _ _ _ _ _ _ _ _ _ _ _ _ _ _ _ _ _ _ _ _ _ _ _ _ _ (by rw [scanPts]; simpa using m2)
end
theorem scan_c {w hh : Nat} (w1 : 1 ≤ w) (w2 : w ≤ 64) (h1 : 1 ≤ hh) (h2 : hh ≤ 64) (h : Heap) :
    ∃ s h', (∀ R, Ret tab 119 [.int .i64 w, .int .i64 hh] h R = R s h') ∧ Mk h.length h h' s (scan w hh) := by
  have hs : ∀ h R, Ret tab 96 [.int .i64 w, .int .i64 hh] h R = R (.bool true) h := fun h R => sized_c w1 w2 h1 h2
  have key : Ret tab 119 [.int .i64 w, .int .i64 hh] h fun s h' => Mk h.length h h' s (scan w hh) := by
    have hm : w * hh ≤ 64 * 64 := Nat.mul_le_mul w2 h2
    have hst : 4 * w * stripesOf hh ≤ 4 * 64 * 16 := Nat.mul_le_mul (by omega) (by unfold stripesOf; omega)
    have g1 : (hh : Int) ≤ 0 + 4 * (stripesOf hh : Nat) := by unfold stripesOf; omega
    have g2 : 0 + 4 * ((stripesOf hh : Nat) : Int) ≤ hh + 3 := by unfold stripesOf; omega
    rw [enter119, B119]
    have hw : IntKind.i64.wrap ((w : Int) * hh) = ((w * hh : Nat) : Int) := by rw [← Int.natCast_mul]; exact wrapN (by omega)
    have hr : ((w * hh : Nat) : Int) ≤ (roomCells : Int) := by unfold roomCells; omega
    simp [-Int.natCast_mul, hs, hw, hr, repL]
    refine scan2_c h2 w2 (stripesOf hh) 0 _ _ [] _ _ _ _ _ _ _ _ _ _ _ _ _ _ _ _ _ _ _ _ _ _ _ _ _ _ _ _ _ _ _ _ _ _ _ _ _ _ g1 g2 (by omega) ⟨⟨rfl, .inr ⟨h.length, rfl, blk?_push_eq⟩⟩, fun id hid => blk?_push_lt hid, by simp, fun id hid => by simp [sid] at hid; omega⟩ (by simp; omega) ?_
    intro h' s' K2 K3 K6 K7 K8 K9 Ka Kb Kc Kd Ke Kf Kg Kh Ki Kj Kk Kl Km Kn Ko Kp Kq Kr Ks Kt Ku Kv Kw Kx Ky Kz J0 J1 J2 J3 J4 J5 J6 m
    simp [fin119]
    simpa [scan] using m
  obtain ⟨v, h', e, m⟩ := ret_ex key
  exact ⟨v, h', e, m⟩

section
variable {B w hh : Nat} {h0 : Heap} {R : Value → Heap → Prop} {k : List RItem} {v4 : Value}
theorem scan0_r (hh2 : hh ≤ 64) {top x : Int} (ht : 0 ≤ top ∧ top < 64) :
    ∀ (n : Nat) (y : Int) (h : Heap) (s : Value) (l : List (Int × Int)) (K2 K3 K9 Ka Kb Kc Kd Ke Kf Kg Kh Ki Kj Kk Kl Km Kn Ko Kp Kq Kr Ks Kt Ku Kv Kw Kx Ky Kz J0 J1 J2 : Value), y + n = min (top + 4) hh → top ≤ y → Mk B h0 h s l → l.length + n ≤ 20000 →
      (∀ (h' : Heap) (s' : Value) (y' : Int) (K2 K3 K9 Ka Kb Kc Kd Ke Kf Kg Kh Ki Kj Kk Kl Km Kn Ko Kp Kq Kr Ks Kt Ku Kv Kw Kx Ky Kz J0 J1 J2 : Value), Mk B h0 h' s' (l ++ colPts x y n) → Ok tab R82 k #[.int .i64 w,.int .i64 hh,K2,K3,v4,s',.int .i64 top,.int .i64 x,.int .i64 y',K9,Ka,Kb,Kc,Kd,Ke,Kf,Kg,Kh,Ki,Kj,Kk,Kl,Km,Kn,Ko,Kp,Kq,Kr,Ks,Kt,Ku,Kv,Kw,Kx,Ky,Kz,J0,J1,J2] h' R) →
      Ok tab R82 (.inLoop L82_0 :: .inBlock 4 :: k) #[.int .i64 w,.int .i64 hh,K2,K3,v4,s,.int .i64 top,.int .i64 x,.int .i64 y,K9,Ka,Kb,Kc,Kd,Ke,Kf,Kg,Kh,Ki,Kj,Kk,Kl,Km,Kn,Ko,Kp,Kq,Kr,Ks,Kt,Ku,Kv,Kw,Kx,Ky,Kz,J0,J1,J2] h R := by
  intro n
  induction n with
  | zero =>
    intro y h s l K2 K3 K9 Ka Kb Kc Kd Ke Kf Kg Kh Ki Kj Kk Kl Km Kn Ko Kp Kq Kr Ks Kt Ku Kv Kw Kx Ky Kz J0 J1 J2 hy hty m hl hk
    have hw : IntKind.i64.wrap (top + 4) = top + 4 := wrapI (by omega) (by omega)
    have hlt : ¬ y < min (top + 4) (hh : Int) := by omega
    have := hk h s y
    rw [colPts, List.append_nil] at this
    rw [ok_round, l82_0, L82_0a, L82_0b]
    simp [hw, fold1, foldO, min2V, min4 (hh := hh) ht.1]
    simp [hlt]
    exact this _ _ _ _ _ _ _ _ _ _ _ _ _ _ _ _ _ _ _ _ _ _ _ _ _ _ _ _ _ _ _ _ m
  | succ n ih =>
    intro y h s l K2 K3 K9 Ka Kb Kc Kd Ke Kf Kg Kh Ki Kj Kk Kl Km Kn Ko Kp Kq Kr Ks Kt Ku Kv Kw Kx Ky Kz J0 J1 J2 hy hty m hl hk
    have hw : IntKind.i64.wrap (top + 4) = top + 4 := wrapI (by omega) (by omega)
    have hw1 : IntKind.i64.wrap (y + 1) = y + 1 := wrapI (by omega) (by omega)
    have hlt : y < min (top + 4) (hh : Int) := by omega
    obtain ⟨s', H, ha, m'⟩ := m.push (by omega) x y
    rw [ok_round, l82_0, L82_0a, L82_0b]
    simp [hw, fold1, foldO, min2V, min4 (hh := hh) ht.1]
    simp [hlt, hw1, repL, ha]
    refine ih (y + 1) H s' (l ++ [(x, y)]) _ _ _ _ _ _ _ _ _ _ _ _ _ _ _ _ _ _ _ _ _ _ _ _ _ _ _ _ _ _ _ _ (by omega) (by omega) m' (by simp; omega) ?_
    intro h' s'' y' K2 K3 K9 Ka Kb Kc Kd Ke Kf Kg Kh Ki Kj Kk Kl Km Kn Ko Kp Kq Kr Ks Kt Ku Kv Kw Kx Ky Kz J0 J1 J2 m2
    exact hk h' s'' y' _ _ _ _ _ _ _ _ _ _ _ _ _ _ _ _ _ _ _ _ _ _ _ _ _ _ _ _ _ _ _ _ (by rw [colPts]; simpa using m2)
theorem scan1_r (hh2 : hh ≤ 64) (hw2 : w ≤ 64) {top : Int} (ht : 0 ≤ top ∧ top < 64) :
    ∀ (n : Nat) (x : Int) (h : Heap) (s : Value) (l : List (Int × Int)) (K2 K3 K8 K9 Ka Kb Kc Kd Ke Kf Kg Kh Ki Kj Kk Kl Km Kn Ko Kp Kq Kr Ks Kt Ku Kv Kw Kx Ky Kz J0 J1 J2 : Value), x + n = w → 0 ≤ x → Mk B h0 h s l → l.length + 4 * n ≤ 20000 →
      (∀ (h' : Heap) (s' : Value) (x' : Int) (K2 K3 K8 K9 Ka Kb Kc Kd Ke Kf Kg Kh Ki Kj Kk Kl Km Kn Ko Kp Kq Kr Ks Kt Ku Kv Kw Kx Ky Kz J0 J1 J2 : Value), Mk B h0 h' s' (l ++ stripePts hh x top n) → Ok tab R82 k #[.int .i64 w,.int .i64 hh,K2,K3,v4,s',.int .i64 top,.int .i64 x',K8,K9,Ka,Kb,Kc,Kd,Ke,Kf,Kg,Kh,Ki,Kj,Kk,Kl,Km,Kn,Ko,Kp,Kq,Kr,Ks,Kt,Ku,Kv,Kw,Kx,Ky,Kz,J0,J1,J2] h' R) →
      Ok tab R82 (.inLoop L82_1 :: .inBlock 2 :: k) #[.int .i64 w,.int .i64 hh,K2,K3,v4,s,.int .i64 top,.int .i64 x,K8,K9,Ka,Kb,Kc,Kd,Ke,Kf,Kg,Kh,Ki,Kj,Kk,Kl,Km,Kn,Ko,Kp,Kq,Kr,Ks,Kt,Ku,Kv,Kw,Kx,Ky,Kz,J0,J1,J2] h R := by
  intro n
  induction n with
  | zero =>
    intro x h s l K2 K3 K8 K9 Ka Kb Kc Kd Ke Kf Kg Kh Ki Kj Kk Kl Km Kn Ko Kp Kq Kr Ks Kt Ku Kv Kw Kx Ky Kz J0 J1 J2 hx h0x m hl hk
    have hlt : ¬ x < (w : Int) := by omega
    have := hk h s x
    rw [stripePts, List.append_nil] at this
    rw [ok_round, l82_1, L82_1a, L82_1b]
    simp [hlt]
    exact this _ _ _ _ _ _ _ _ _ _ _ _ _ _ _ _ _ _ _ _ _ _ _ _ _ _ _ _ _ _ _ _ _ m
  | succ n ih =>
    intro x h s l K2 K3 K8 K9 Ka Kb Kc Kd Ke Kf Kg Kh Ki Kj Kk Kl Km Kn Ko Kp Kq Kr Ks Kt Ku Kv Kw Kx Ky Kz J0 J1 J2 hx h0x m hl hk
    have hw1 : IntKind.i64.wrap (x + 1) = x + 1 := wrapI (by omega) (by omega)
    have hlt : x < (w : Int) := by omega
    rw [ok_round, l82_1, L82_1a, L82_1b]
    simp [hlt]
    by_cases hth : top ≤ hh
    · refine scan0_r hh2 ht (min (top + 4) (hh : Int) - top).toNat top h s l _ _ _ _ _ _ _ _ _ _ _ _ _ _ _ _ _ _ _ _ _ _ _ _ _ _ _ _ _ _ _ _ (by omega) (by omega) m (by omega) ?_
      intro h' s' y' K2 K3 K9 Ka Kb Kc Kd Ke Kf Kg Kh Ki Kj Kk Kl Km Kn Ko Kp Kq Kr Ks Kt Ku Kv Kw Kx Ky Kz J0 J1 J2 m1
      simp [hw1]
      refine ih (x + 1) h' s' _ _ _ _ _ _ _ _ _ _ _ _ _ _ _ _ _ _ _ _ _ _ _ _ _ _ _ _ _ _ _ _ _ _ (by omega) (by omega) m1 (by rw [List.length_append, colPts_len]; omega) ?_
      intro h'' s'' x' K2 K3 K8 K9 Ka Kb Kc Kd Ke Kf Kg Kh Ki Kj Kk Kl Km Kn Ko Kp Kq Kr Ks Kt Ku Kv Kw Kx Ky Kz J0 J1 J2 m2
      exact hk h'' s'' x' _ _ _ _ _ _ _ _ _ _ _ _ _ _ _ _ _ _ _ _ _ _ _ _ _ _ _ _ _ _ _ _ _ (by rw [stripePts]; simpa using m2)
    · have hw : IntKind.i64.wrap (top + 4) = top + 4 := wrapI (by omega) (by omega)
      have hlt2 : ¬ top < min (top + 4) (hh : Int) := by omega
      rw [ok_round, l82_0, L82_0a, L82_0b]
      simp [hw, fold1, foldO, min2V, min4 (hh := hh) ht.1]
      simp [hlt2, hw1]
      refine ih (x + 1) h s _ _ _ _ _ _ _ _ _ _ _ _ _ _ _ _ _ _ _ _ _ _ _ _ _ _ _ _ _ _ _ _ _ _ (by omega) (by omega) m (by omega) ?_
      intro h'' s'' x' K2 K3 K8 K9 Ka Kb Kc Kd Ke Kf Kg Kh Ki Kj Kk Kl Km Kn Ko Kp Kq Kr Ks Kt Ku Kv Kw Kx Ky Kz J0 J1 J2 m2
      refine hk h'' s'' x' _ _ _ _ _ _ _ _ _ _ _ _ _ _ _ _ _ _ _ _ _ _ _ _ _ _ _ _ _ _ _ _ _ ?_
      rw [stripePts, show (min (top + 4) (hh : Int) - top).toNat = 0 by omega]
      simpa [colPts] using m2
theorem scan2_r (hh2 : hh ≤ 64) (hw2 : w ≤ 64) :
    ∀ (n : Nat) (top : Int) (h : Heap) (s : Value) (l : List (Int × Int)) (K2 K3 K7 K8 K9 Ka Kb Kc Kd Ke Kf Kg Kh Ki Kj Kk Kl Km Kn Ko Kp Kq Kr Ks Kt Ku Kv Kw Kx Ky Kz J0 J1 J2 : Value), (hh : Int) ≤ top + 4 * n → top + 4 * n ≤ hh + 3 → 0 ≤ top → Mk B h0 h s l → l.length + 4 * w * n ≤ 20000 →
      (∀ (h' : Heap) (s' : Value) (K2 K3 K6 K7 K8 K9 Ka Kb Kc Kd Ke Kf Kg Kh Ki Kj Kk Kl Km Kn Ko Kp Kq Kr Ks Kt Ku Kv Kw Kx Ky Kz J0 J1 J2 : Value), Mk B h0 h' s' (l ++ scanPts w hh top n) → Ok tab R82 k #[.int .i64 w,.int .i64 hh,K2,K3,v4,s',K6,K7,K8,K9,Ka,Kb,Kc,Kd,Ke,Kf,Kg,Kh,Ki,Kj,Kk,Kl,Km,Kn,Ko,Kp,Kq,Kr,Ks,Kt,Ku,Kv,Kw,Kx,Ky,Kz,J0,J1,J2] h' R) →
      Ok tab R82 (.inLoop L82_2 :: .inBlock 0 :: k) #[.int .i64 w,.int .i64 hh,K2,K3,v4,s,.int .i64 top,K7,K8,K9,Ka,Kb,Kc,Kd,Ke,Kf,Kg,Kh,Ki,Kj,Kk,Kl,Km,Kn,Ko,Kp,Kq,Kr,Ks,Kt,Ku,Kv,Kw,Kx,Ky,Kz,J0,J1,J2] h R := by
  intro n
  induction n with
  | zero =>
    intro top h s l K2 K3 K7 K8 K9 Ka Kb Kc Kd Ke Kf Kg Kh Ki Kj Kk Kl Km Kn Ko Kp Kq Kr Ks Kt Ku Kv Kw Kx Ky Kz J0 J1 J2 hx hx2 h0x m hl hk
    have hlt : ¬ top < (hh : Int) := by omega
    have := hk h s
    rw [scanPts, List.append_nil] at this
    rw [ok_round, l82_2, L82_2a, L82_2b]
    simp [hlt]
    exact this _ _ _ _ _ _ _ _ _ _ _ _ _ _ _ _ _ _ _ _ _ _ _ _ _ _ _ _ _ _ _ _ _ _ _ m
  | succ n ih =>
    intro top h s l K2 K3 K7 K8 K9 Ka Kb Kc Kd Ke Kf Kg Kh Ki Kj Kk Kl Km Kn Ko Kp Kq Kr Ks Kt Ku Kv Kw Kx Ky Kz J0 J1 J2 hx hx2 h0x m hl hk
    have hw1 : IntKind.i64.wrap (top + 4) = top + 4 := wrapI (by omega) (by omega)
    have hlt : top < (hh : Int) := by omega
    have hmul : 4 * w * (n + 1) = 4 * w * n + 4 * w := by rw [Nat.mul_add]; omega
    rw [ok_round, l82_2, L82_2a, L82_2b]
    simp [hlt]
    refine scan1_r hh2 hw2 ⟨h0x, by omega⟩ w 0 h s l _ _ _ _ _ _ _ _ _ _ _ _ _ _ _ _ _ _ _ _ _ _ _ _ _ _ _ _ _ _ _ _ _ (by omega) (by omega) m (by omega) ?_
    intro h' s' x' K2 K3 K8 K9 Ka Kb Kc Kd Ke Kf Kg Kh Ki Kj Kk Kl Km Kn Ko Kp Kq Kr Ks Kt Ku Kv Kw Kx Ky Kz J0 J1 J2 m1
    simp [hw1]
    refine ih (top + 4) h' s' _ _ _ _ _ _ _ _ _ _ _ _ _ _ _ _ _ _ _ _ _ _ _ _ _ _ _ _ _ _ _ _ _ _ _ (by omega) (by omega) (by omega) m1 (by rw [List.length_append]; have := stripePts_len hh w 0 top; omega) ?_
    intro h'' s'' K2 K3 K6 K7 K8 K9 Ka Kb Kc Kd Ke Kf Kg Kh Ki Kj Kk Kl Km Kn Ko Kp Kq Kr Ks Kt Ku Kv Kw Kx Ky Kz J0 J1 J2 m2
    exact hk h'' s'' _ _ _ _ _ _ _ _ _ _ _ _ _ _ _ _ _ _ _ _ _ _ _ _ _ _ _ _ _ _ _ _ _ _ _ (by rw [scanPts]; simpa using m2)
end
theorem scan_r {w hh : Nat} (w1 : 1 ≤ w) (w2 : w ≤ 64) (h1 : 1 ≤ hh) (h2 : hh ≤ 64) (h : Heap) :
    ∃ s h', (∀ R, Ret tab 82 [.int .i64 w, .int .i64 hh] h R = R s h') ∧ Mk h.length h h' s (scan w hh) := by
  have hs : ∀ h R, Ret tab 115 [.int .i64 w, .int .i64 hh] h R = R (.bool true) h := fun h R => sized_r w1 w2 h1 h2
  have key : Ret tab 82 [.int .i64 w, .int .i64 hh] h fun s h' => Mk h.length h h' s (scan w hh) := by
    have hm : w * hh ≤ 64 * 64 := Nat.mul_le_mul w2 h2
    have hst : 4 * w * stripesOf hh ≤ 4 * 64 * 16 := Nat.mul_le_mul (by omega) (by unfold stripesOf; omega)
    have g1 : (hh : Int) ≤ 0 + 4 * (stripesOf hh : Nat) := by unfold stripesOf; omega
    have g2 : 0 + 4 * ((stripesOf hh : Nat) : Int) ≤ hh + 3 := by unfold stripesOf; omega
    rw [enter82, B82]
    simp [hs]
    refine scan2_r h2 w2 (stripesOf hh) 0 _ _ [] _ _ _ _ _ _ _ _ _ _ _ _ _ _ _ _ _ _ _ _ _ _ _ _ _ _ _ _ _ _ _ _ _ _ g1 g2 (by omega) ⟨OwnS.nil _ _, fun id hid => rfl, Nat.le_refl _, fun id hid => by simp [sid] at hid⟩ (by simp; omega) ?_
    intro h' s' K2 K3 K6 K7 K8 K9 Ka Kb Kc Kd Ke Kf Kg Kh Ki Kj Kk Kl Km Kn Ko Kp Kq Kr Ks Kt Ku Kv Kw Kx Ky Kz J0 J1 J2 m
    simp [fin82]
    simpa [scan] using m
  obtain ⟨v, h', e, m⟩ := ret_ex key
  exact ⟨v, h', e, m⟩
theorem Stp.low {h h' : Heap} (hk : ∀ id, id < h.length → blk? h' id = blk? h id) (hl : h.length ≤ h'.length) (c ob : Nat) (sv : Value) : Stp h h' c ob sv sv := ⟨hl, fun id h1 _ _ _ => hk id h1, fun _ h => .inl h⟩

section
variable {h : Heap} {q p c pb ob : Nat} {P : PP} {sv : Value} {σ : ES}

theorem PE.low (he : PE h q p c pb ob P sv σ) {h' : Heap} (hk : ∀ id, id < h.length → blk? h' id = blk? h id) (hl : h.length ≤ h'.length) : PE h' q p c pb ob P sv σ := by
  obtain ⟨l1, l2, l3, l4, l5⟩ := he.lts
  refine ⟨he.pr.keep (fun id hid => hk id ?_) (by simp; omega), by rw [hk _ l4]; exact he.pbk, by rw [hk _ l5]; exact he.obk, he.own.of_blk (fun id _ hb => by rw [hk _ (blk?_lt hb)]; exact hb), he.n1, he.n2, he.n3⟩
  rcases hid with rfl | rfl | rfl <;> assumption

theorem PE.good (he : PE h q p c pb ob P sv σ) : σ.b.Good := ⟨he.pr.cb.ok, he.pr.rng⟩

/-- The points of a block, made. -/
theorem PE.scan (he : PE h q p c pb ob P sv σ) : ∃ s h', (∀ R, Ret tab 119 [.int .i64 σ.b.w, .int .i64 σ.b.h] h R = R s h') ∧ PE h' q p c pb ob P sv σ ∧ Stp h h' c ob sv sv ∧ Far h' s (scan σ.b.w σ.b.h) c ob sv := by
  have ho := he.pr.cb.ok
  obtain ⟨l1, l2, l3, l4, l5⟩ := he.lts
  obtain ⟨s, h', e, m⟩ := scan_c ho.w1 ho.w2 ho.h1 ho.h2 h
  refine ⟨s, h', e, he.low m.low m.len, Stp.low m.low m.len c ob sv, ⟨m.own.sl, fun id hid => ?_⟩⟩
  have h1 := m.far id hid
  refine ⟨?_, by omega, by omega, fun e => by have := he.own.lt e; omega⟩
  rcases m.own.2 with ⟨rfl, _⟩ | ⟨id', rfl, hb⟩
  · simp [sid] at hid
  · simp [sid] at hid; subst hid; exact blk?_lt hb

theorem sig_loop {s : Value} {pts : List (Int × Int)} {k : List RItem} {R : Value → Heap → Prop} :
    ∀ (m i : Nat) (h : Heap) (sv : Value) (σ : ES) (K1 K2 K3 K4 K5 K6 K7 K8 K9 Ka Kb Kf Kg Kh Ki Kj Kk Kl Km Kn Ko Kp Kq Kr Ks Kt Ku Kv Kw Kx Ky Kz J0 J1 J2 J3 J4 J5 J6 J7 J8 J9 Ja Jb Jc Jd Je Jf : Value), m = pts.length - i → i ≤ pts.length → PE h q p c pb ob P sv σ → Far h s pts c ob sv → AllIn σ.b pts → σ.out.length + 2 * m + 3 < 1000000 → pts.length < 1000000 →
      (∀ (h' : Heap) (sv' : Value) (K1 K2 K3 K4 K5 K6 K7 K8 K9 Ka Kb Kc Kd Ke Kf Kg Kh Ki Kj Kk Kl Km Kn Ko Kp Kq Kr Ks Kt Ku Kv Kw Kx Ky Kz J0 J1 J2 J3 J4 J5 J6 J7 J8 J9 Ja Jb Jc Jd Je Jf : Value), PE h' q p c pb ob P sv' (σ.sigs P (pts.drop i)) → Stp h h' c ob sv sv' → Ok tab R135 k #[ptr q,K1,K2,K3,K4,K5,K6,K7,K8,K9,Ka,Kb,Kc,Kd,Ke,Kf,Kg,Kh,Ki,Kj,Kk,Kl,Km,Kn,Ko,Kp,Kq,Kr,Ks,Kt,Ku,Kv,Kw,Kx,Ky,Kz,J0,J1,J2,J3,J4,J5,J6,J7,J8,J9,Ja,Jb,Jc,Jd,Je,Jf] h' R) →
      Ok tab R135 (.inLoop L135_0 :: .inBlock 0 :: k) #[ptr q,K1,K2,K3,K4,K5,K6,K7,K8,K9,Ka,Kb,s,.int .i64 pts.length,.int .i64 i,Kf,Kg,Kh,Ki,Kj,Kk,Kl,Km,Kn,Ko,Kp,Kq,Kr,Ks,Kt,Ku,Kv,Kw,Kx,Ky,Kz,J0,J1,J2,J3,J4,J5,J6,J7,J8,J9,Ja,Jb,Jc,Jd,Je,Jf] h R := by
  intro m
  induction m with
  | zero =>
    intro i h sv σ K1 K2 K3 K4 K5 K6 K7 K8 K9 Ka Kb Kf Kg Kh Ki Kj Kk Kl Km Kn Ko Kp Kq Kr Ks Kt Ku Kv Kw Kx Ky Kz J0 J1 J2 J3 J4 J5 J6 J7 J8 J9 Ja Jb Jc Jd Je Jf hm hi he hf ha hl hpl hk
    have hlt : ¬ ((i : Int) < pts.length) := by omega
    rw [ok_round, l135_0, L135_0a, L135_0b]
    simp [hlt]
    refine hk h sv _ _ _ _ _ _ _ _ _ _ _ _ _ _ _ _ _ _ _ _ _ _ _ _ _ _ _ _ _ _ _ _ _ _ _ _ _ _ _ _ _ _ _ _ _ _ _ _ _ _ _ ?_ (Stp.refl _ _ _ _)
    rw [List.drop_of_length_le (by omega)]; exact he
  | succ m ih =>
    intro i h sv σ K1 K2 K3 K4 K5 K6 K7 K8 K9 Ka Kb Kf Kg Kh Ki Kj Kk Kl Km Kn Ko Kp Kq Kr Ks Kt Ku Kv Kw Kx Ky Kz J0 J1 J2 J3 J4 J5 J6 J7 J8 J9 Ja Jb Jc Jd Je Jf hm hi he hf ha hl hpl hk
    have hlt : ((i : Int) < pts.length) := by omega
    have hw : IntKind.i64.wrap ((i : Int) + 1) = (i : Int) + 1 := wrapN (n := i + 1) (by omega)
    have hil : i < pts.length := by omega
    obtain ⟨id, off, blk, hs, hb, ht, hle⟩ := hf.get hil
    have hin := ha _ (List.getElem_mem hil)
    have hsp : ∀ τ : ES, τ = σ.sig1 P pts[i].1 pts[i].2 → σ.sigs P (pts.drop i) = τ.sigs P (pts.drop (i + 1)) := by
      intro τ hτ
      rw [List.drop_eq_getElem_cons hil, hτ]; rfl
    have hle1 := le_sig1 (P := P) he.good hin
    generalize hx : pts[i].1 = x at *
    generalize hy : pts[i].2 = y at *
    have he2 := he.push (some ⟨false, [.int .i64 x, .int .i64 y]⟩)
    have hs2 := Stp.push h (some ⟨false, [.int .i64 x, .int .i64 y]⟩) c ob sv
    have hf2 := hf.stp hs2
    have hK : ∀ y : Blk, blk? (h ++ [some y]) h.length = some y := fun y => blk?_push_eq
    obtain ⟨l1, l2, l3, l4, l5⟩ := he.lts
    have hq2 := he2.pr.blk
    have hcb2 := he2.pr.cb
    have hsig := fun R => significant_c (R := R) (x := x) (y := y) hcb2
    have hnb := fun R => neighbors_p (R := R) (x := x) (y := y) he2.pr hin
    rw [ok_round, l135_0, L135_0a, L135_0b]
    cases hsg : (σ.b.get x y).s
    · cases hnr : near σ.b x y P.cz
      · have h1 : σ.sig1 P x y = σ := by unfold ES.sig1; rw [if_neg (by simp [hnr])]
        rw [hsg] at hsig; rw [hnr] at hnb
        simp [-List.cons_append, -List.append_assoc, k_guard, hlt, hw, hs, hb, ht, hle, hK, hq2, hsig, hnb]
        rw [← hs]
        refine ih (i + 1) _ sv σ _ _ _ _ _ _ _ _ _ _ _ _ _ _ _ _ _ _ _ _ _ _ _ _ _ _ _ _ _ _ _ _ _ _ _ _ _ _ _ _ _ _ _ _ _ _ _ _ (by omega) (by omega) he2 hf2 ha (by omega) hpl ?_
        intro h' sv' K1 K2 K3 K4 K5 K6 K7 K8 K9 Ka Kb Kc Kd Ke Kf Kg Kh Ki Kj Kk Kl Km Kn Ko Kp Kq Kr Ks Kt Ku Kv Kw Kx Ky Kz J0 J1 J2 J3 J4 J5 J6 J7 J8 J9 Ja Jb Jc Jd Je Jf pe st
        exact hk h' sv' _ _ _ _ _ _ _ _ _ _ _ _ _ _ _ _ _ _ _ _ _ _ _ _ _ _ _ _ _ _ _ _ _ _ _ _ _ _ _ _ _ _ _ _ _ _ _ _ _ _ _ (by rw [hsp σ h1.symm]; exact pe) (hs2.trans st)
      · obtain ⟨sv3, h3, e3, p3, s3⟩ := code_p he2 (by omega) hin
        have hc1 := le_code (P := P) he.good hin
        have hq3 := p3.pr.blk
        have hv3 : blk? h3 h.length = some ⟨false, [.int .i64 x, .int .i64 y]⟩ := by
          rw [s3.same h.length (by simp) (by omega) (by omega) (fun e => by have := he.own.lt e; omega)]; exact blk?_push_eq
        have htc := fun R => touch_c (R := R) (v := true) p3.pr.cb (x := x) (y := y) (hc1.inb hin)
        obtain ⟨p4, s4⟩ := p3.map (x := x) (y := y) (hc1.inb hin) (kv_touch true)
        have h1 : σ.sig1 P x y = (σ.code P x y).map x y (touch true) := by unfold ES.sig1; rw [if_pos ⟨hsg, hnr⟩]
        have hmm : (fun z : Cell => ({ z with t := true } : Cell)) = touch true := rfl
        rw [hmm] at htc
        have hle1' := hle1.len
        rw [h1] at hle1'
        rw [hsg] at hsig; rw [hnr] at hnb
        simp [-List.cons_append, -List.append_assoc, k_guard, hlt, hw, hs, hb, ht, hle, hK, hq2, hsig, hnb, e3, hq3, hv3, htc]
        rw [← hs]
        have st4 := (hs2.trans s3).trans s4
        refine ih (i + 1) _ sv3 _ _ _ _ _ _ _ _ _ _ _ _ _ _ _ _ _ _ _ _ _ _ _ _ _ _ _ _ _ _ _ _ _ _ _ _ _ _ _ _ _ _ _ _ _ _ _ _ _ (by omega) (by omega) p4 (hf.stp st4) (by rw [← h1]; exact ha.le hle1) (by omega) hpl ?_
        intro h' sv' K1 K2 K3 K4 K5 K6 K7 K8 K9 Ka Kb Kc Kd Ke Kf Kg Kh Ki Kj Kk Kl Km Kn Ko Kp Kq Kr Ks Kt Ku Kv Kw Kx Ky Kz J0 J1 J2 J3 J4 J5 J6 J7 J8 J9 Ja Jb Jc Jd Je Jf pe st
        exact hk h' sv' _ _ _ _ _ _ _ _ _ _ _ _ _ _ _ _ _ _ _ _ _ _ _ _ _ _ _ _ _ _ _ _ _ _ _ _ _ _ _ _ _ _ _ _ _ _ _ _ _ _ _ (by rw [hsp _ h1.symm]; exact pe) (st4.trans st)
    · have h1 : σ.sig1 P x y = σ := by unfold ES.sig1; rw [if_neg (by simp [hsg])]
      rw [hsg] at hsig
      simp [-List.cons_append, -List.append_assoc, k_guard, hlt, hw, hs, hb, ht, hle, hK, hq2, hsig]
      rw [← hs]
      refine ih (i + 1) _ sv σ _ _ _ _ _ _ _ _ _ _ _ _ _ _ _ _ _ _ _ _ _ _ _ _ _ _ _ _ _ _ _ _ _ _ _ _ _ _ _ _ _ _ _ _ _ _ _ _ (by omega) (by omega) he2 hf2 ha (by omega) hpl ?_
      intro h' sv' K1 K2 K3 K4 K5 K6 K7 K8 K9 Ka Kb Kc Kd Ke Kf Kg Kh Ki Kj Kk Kl Km Kn Ko Kp Kq Kr Ks Kt Ku Kv Kw Kx Ky Kz J0 J1 J2 J3 J4 J5 J6 J7 J8 J9 Ja Jb Jc Jd Je Jf pe st
      exact hk h' sv' _ _ _ _ _ _ _ _ _ _ _ _ _ _ _ _ _ _ _ _ _ _ _ _ _ _ _ _ _ _ _ _ _ _ _ _ _ _ _ _ _ _ _ _ _ _ _ _ _ _ _ (by rw [hsp σ h1.symm]; exact pe) (hs2.trans st)

theorem scan_len {w h : Nat} (hw : w ≤ 64) (hh : h ≤ 64) : (scan w h).length ≤ 4096 := by
  have := scanPts_len w h (stripesOf h) 0
  have h2 : 4 * w * stripesOf h ≤ 4 * 64 * 16 := Nat.mul_le_mul (by omega) (by unfold stripesOf; omega)
  unfold scan; omega

theorem significance_p (he : PE h q p c pb ob P sv σ) (hl : σ.out.length ≤ 1000) :
    ∃ sv' h', (∀ R, Ret tab 135 [ptr q] h R = R (.tuple #[]) h') ∧ PE h' q p c pb ob P sv' (σ.sigs P (scan σ.b.w σ.b.h)) ∧ Stp h h' c ob sv sv' := by
  have key : Ret tab 135 [ptr q] h fun v h' => v = .tuple #[] ∧ ∃ sv', PE h' q p c pb ob P sv' (σ.sigs P (scan σ.b.w σ.b.h)) ∧ Stp h h' c ob sv sv' := by
    obtain ⟨s, h1, e1, p1, s1, f1⟩ := he.scan
    obtain ⟨a, cc, hs⟩ := f1.sl.shape
    have hsl := scan_len he.pr.cb.ok.w2 he.pr.cb.ok.h2
    have hq := he.pr.blk
    rw [enter135, B135]
    simp [hq, e1, hs]
    rw [← hs]
    refine sig_loop _ 0 h1 sv σ _ _ _ _ _ _ _ _ _ _ _ _ _ _ _ _ _ _ _ _ _ _ _ _ _ _ _ _ _ _ _ _ _ _ _ _ _ _ _ _ _ _ _ _ _ _ _ _ rfl (by omega) p1 f1 (scanIn σ.b) (by omega) (by omega) ?_
    intro h' sv' K1 K2 K3 K4 K5 K6 K7 K8 K9 Ka Kb Kc Kd Ke Kf Kg Kh Ki Kj Kk Kl Km Kn Ko Kp Kq Kr Ks Kt Ku Kv Kw Kx Ky Kz J0 J1 J2 J3 J4 J5 J6 J7 J8 J9 Ja Jb Jc Jd Je Jf pe st
    simp [fin135]
    exact ⟨sv', by simpa using pe, s1.trans st⟩
  obtain ⟨v, h', e, rfl, sv', pe, st⟩ := ret_ex key
  exact ⟨sv', h', e, pe, st⟩
end
section
variable {h : Heap} {q p c pb ob : Nat} {P : PP} {sv : Value} {σ : ES}

theorem ref_loop {s : Value} {pts : List (Int × Int)} {k : List RItem} {R : Value → Heap → Prop} :
    ∀ (m i : Nat) (h : Heap) (sv : Value) (σ : ES) (K1 K2 K3 K4 K5 K6 K7 K8 K9 Ka Kb Kf Kg Kh Ki Kj Kk Kl Km Kn Ko Kp Kq Kr Ks Kt Ku Kv Kw Kx Ky Kz J0 J1 J2 J3 J4 J5 J6 J7 J8 J9 Ja Jb Jc Jd Je Jf Jg Jh Ji Jj Jk Jl Jm Jn Jo Jp Jq Jr Js Jt Ju Jv Jw Jx Jy Jz Y0 Y1 Y2 Y3 Y4 Y5 Y6 Y7 Y8 Y9 Ya Yb Yc Yd : Value), m = pts.length - i → i ≤ pts.length → PE h q p c pb ob P sv σ → Far h s pts c ob sv → AllIn σ.b pts → σ.out.length + 2 * m + 3 < 1000000 → pts.length < 1000000 →
      (∀ (h' : Heap) (sv' : Value) (K1 K2 K3 K4 K5 K6 K7 K8 K9 Ka Kb Kc Kd Ke Kf Kg Kh Ki Kj Kk Kl Km Kn Ko Kp Kq Kr Ks Kt Ku Kv Kw Kx Ky Kz J0 J1 J2 J3 J4 J5 J6 J7 J8 J9 Ja Jb Jc Jd Je Jf Jg Jh Ji Jj Jk Jl Jm Jn Jo Jp Jq Jr Js Jt Ju Jv Jw Jx Jy Jz Y0 Y1 Y2 Y3 Y4 Y5 Y6 Y7 Y8 Y9 Ya Yb Yc Yd : Value), PE h' q p c pb ob P sv' (σ.refs P (pts.drop i)) → Stp h h' c ob sv sv' → Ok tab R136 k #[ptr q,K1,K2,K3,K4,K5,K6,K7,K8,K9,Ka,Kb,Kc,Kd,Ke,Kf,Kg,Kh,Ki,Kj,Kk,Kl,Km,Kn,Ko,Kp,Kq,Kr,Ks,Kt,Ku,Kv,Kw,Kx,Ky,Kz,J0,J1,J2,J3,J4,J5,J6,J7,J8,J9,Ja,Jb,Jc,Jd,Je,Jf,Jg,Jh,Ji,Jj,Jk,Jl,Jm,Jn,Jo,Jp,Jq,Jr,Js,Jt,Ju,Jv,Jw,Jx,Jy,Jz,Y0,Y1,Y2,Y3,Y4,Y5,Y6,Y7,Y8,Y9,Ya,Yb,Yc,Yd] h' R) →
      Ok tab R136 (.inLoop L136_0 :: .inBlock 0 :: k) #[ptr q,K1,K2,K3,K4,K5,K6,K7,K8,K9,Ka,Kb,s,.int .i64 pts.length,.int .i64 i,Kf,Kg,Kh,Ki,Kj,Kk,Kl,Km,Kn,Ko,Kp,Kq,Kr,Ks,Kt,Ku,Kv,Kw,Kx,Ky,Kz,J0,J1,J2,J3,J4,J5,J6,J7,J8,J9,Ja,Jb,Jc,Jd,Je,Jf,Jg,Jh,Ji,Jj,Jk,Jl,Jm,Jn,Jo,Jp,Jq,Jr,Js,Jt,Ju,Jv,Jw,Jx,Jy,Jz,Y0,Y1,Y2,Y3,Y4,Y5,Y6,Y7,Y8,Y9,Ya,Yb,Yc,Yd] h R := by
  intro m
  induction m with
  | zero =>
    intro i h sv σ K1 K2 K3 K4 K5 K6 K7 K8 K9 Ka Kb Kf Kg Kh Ki Kj Kk Kl Km Kn Ko Kp Kq Kr Ks Kt Ku Kv Kw Kx Ky Kz J0 J1 J2 J3 J4 J5 J6 J7 J8 J9 Ja Jb Jc Jd Je Jf Jg Jh Ji Jj Jk Jl Jm Jn Jo Jp Jq Jr Js Jt Ju Jv Jw Jx Jy Jz Y0 Y1 Y2 Y3 Y4 Y5 Y6 Y7 Y8 Y9 Ya Yb Yc Yd hm hi he hf ha hl hpl hk
    have hlt : ¬ ((i : Int) < pts.length) := by omega
    rw [ok_round, l136_0, L136_0a, L136_0b]
    simp [hlt]
    refine hk h sv _ _ _ _ _ _ _ _ _ _ _ _ _ _ _ _ _ _ _ _ _ _ _ _ _ _ _ _ _ _ _ _ _ _ _ _ _ _ _ _ _ _ _ _ _ _ _ _ _ _ _ _ _ _ _ _ _ _ _ _ _ _ _ _ _ _ _ _ _ _ _ _ _ _ _ _ _ _ _ _ _ _ _ _ _ ?_ (Stp.refl _ _ _ _)
    rw [List.drop_of_length_le (by omega)]; exact he
  | succ m ih =>
    intro i h sv σ K1 K2 K3 K4 K5 K6 K7 K8 K9 Ka Kb Kf Kg Kh Ki Kj Kk Kl Km Kn Ko Kp Kq Kr Ks Kt Ku Kv Kw Kx Ky Kz J0 J1 J2 J3 J4 J5 J6 J7 J8 J9 Ja Jb Jc Jd Je Jf Jg Jh Ji Jj Jk Jl Jm Jn Jo Jp Jq Jr Js Jt Ju Jv Jw Jx Jy Jz Y0 Y1 Y2 Y3 Y4 Y5 Y6 Y7 Y8 Y9 Ya Yb Yc Yd hm hi he hf ha hl hpl hk
    have hlt : ((i : Int) < pts.length) := by omega
    have hw : IntKind.i64.wrap ((i : Int) + 1) = (i : Int) + 1 := wrapN (n := i + 1) (by omega)
    have hil : i < pts.length := by omega
    obtain ⟨id, off, blk, hs, hb, ht, hle⟩ := hf.get hil
    have hin := ha _ (List.getElem_mem hil)
    have hsp : ∀ τ : ES, τ = σ.ref1 P pts[i].1 pts[i].2 → σ.refs P (pts.drop i) = τ.refs P (pts.drop (i + 1)) := by
      intro τ hτ
      rw [List.drop_eq_getElem_cons hil, hτ]; rfl
    have hle1 := le_ref1 (P := P) he.good hin
    generalize hx : pts[i].1 = x at *
    generalize hy : pts[i].2 = y at *
    have he2 := he.push (some ⟨false, [.int .i64 x, .int .i64 y]⟩)
    have hs2 := Stp.push h (some ⟨false, [.int .i64 x, .int .i64 y]⟩) c ob sv
    have hf2 := hf.stp hs2
    have hK : ∀ y : Blk, blk? (h ++ [some y]) h.length = some y := fun y => blk?_push_eq
    obtain ⟨l1, l2, l3, l4, l5⟩ := he.lts
    have hq2 := he2.pr.blk
    have hcb2 := he2.pr.cb
    have hsig := fun R => significant_c (R := R) (x := x) (y := y) hcb2
    have htch := fun R => touched_c (R := R) (x := x) (y := y) hcb2
    have hrfd := fun R => refined_c (R := R) (x := x) (y := y) hcb2
    have hnb := fun R => neighbors_p (R := R) (x := x) (y := y) he2.pr hin
    have hbit := fun R => bit_c (R := R) (x := x) (y := y) he2.pr
    have hcx := fun a b R => ctxRefine_c (h := h ++ [some (⟨false, [.int .i64 x, .int .i64 y]⟩ : Blk)]) (R := R) (a := a) (b := b)
    have hskip : σ.ref1 P x y = σ → ∀ K1 K2 K3 K4 K5 K6 K7 K8 K9 Ka Kb Kf Kg Kh Ki Kj Kk Kl Km Kn Ko Kp Kq Kr Ks Kt Ku Kv Kw Kx Ky Kz J0 J1 J2 J3 J4 J5 J6 J7 J8 J9 Ja Jb Jc Jd Je Jf Jg Jh Ji Jj Jk Jl Jm Jn Jo Jp Jq Jr Js Jt Ju Jv Jw Jx Jy Jz Y0 Y1 Y2 Y3 Y4 Y5 Y6 Y7 Y8 Y9 Ya Yb Yc Yd : Value, Ok tab R136 (.inLoop L136_0 :: .inBlock 0 :: k) #[ptr q,K1,K2,K3,K4,K5,K6,K7,K8,K9,Ka,Kb,s,.int .i64 pts.length,.int .i64 ((i : Int) + 1),Kf,Kg,Kh,Ki,Kj,Kk,Kl,Km,Kn,Ko,Kp,Kq,Kr,Ks,Kt,Ku,Kv,Kw,Kx,Ky,Kz,J0,J1,J2,J3,J4,J5,J6,J7,J8,J9,Ja,Jb,Jc,Jd,Je,Jf,Jg,Jh,Ji,Jj,Jk,Jl,Jm,Jn,Jo,Jp,Jq,Jr,Js,Jt,Ju,Jv,Jw,Jx,Jy,Jz,Y0,Y1,Y2,Y3,Y4,Y5,Y6,Y7,Y8,Y9,Ya,Yb,Yc,Yd] (h ++ [some ⟨false, [.int .i64 x, .int .i64 y]⟩]) R := by
      intro h1 K1 K2 K3 K4 K5 K6 K7 K8 K9 Ka Kb Kf Kg Kh Ki Kj Kk Kl Km Kn Ko Kp Kq Kr Ks Kt Ku Kv Kw Kx Ky Kz J0 J1 J2 J3 J4 J5 J6 J7 J8 J9 Ja Jb Jc Jd Je Jf Jg Jh Ji Jj Jk Jl Jm Jn Jo Jp Jq Jr Js Jt Ju Jv Jw Jx Jy Jz Y0 Y1 Y2 Y3 Y4 Y5 Y6 Y7 Y8 Y9 Ya Yb Yc Yd
      refine ih (i + 1) _ sv σ _ _ _ _ _ _ _ _ _ _ _ _ _ _ _ _ _ _ _ _ _ _ _ _ _ _ _ _ _ _ _ _ _ _ _ _ _ _ _ _ _ _ _ _ _ _ _ _ _ _ _ _ _ _ _ _ _ _ _ _ _ _ _ _ _ _ _ _ _ _ _ _ _ _ _ _ _ _ _ _ _ _ (by omega) (by omega) he2 hf2 ha (by omega) hpl ?_
      intro h' sv' K1 K2 K3 K4 K5 K6 K7 K8 K9 Ka Kb Kc Kd Ke Kf Kg Kh Ki Kj Kk Kl Km Kn Ko Kp Kq Kr Ks Kt Ku Kv Kw Kx Ky Kz J0 J1 J2 J3 J4 J5 J6 J7 J8 J9 Ja Jb Jc Jd Je Jf Jg Jh Ji Jj Jk Jl Jm Jn Jo Jp Jq Jr Js Jt Ju Jv Jw Jx Jy Jz Y0 Y1 Y2 Y3 Y4 Y5 Y6 Y7 Y8 Y9 Ya Yb Yc Yd pe st
      exact hk h' sv' _ _ _ _ _ _ _ _ _ _ _ _ _ _ _ _ _ _ _ _ _ _ _ _ _ _ _ _ _ _ _ _ _ _ _ _ _ _ _ _ _ _ _ _ _ _ _ _ _ _ _ _ _ _ _ _ _ _ _ _ _ _ _ _ _ _ _ _ _ _ _ _ _ _ _ _ _ _ _ _ _ _ _ _ _ (by rw [hsp σ h1.symm]; exact pe) (hs2.trans st)
    rw [ok_round, l136_0, L136_0a, L136_0b]
    cases hsg : (σ.b.get x y).s
    · have h1 : σ.ref1 P x y = σ := by unfold ES.ref1; rw [if_pos (.inl hsg)]
      rw [hsg] at hsig
      simp [-List.cons_append, -List.append_assoc, k_guard, hlt, hw, hs, hb, ht, hle, hK, hq2, hsig]
      rw [← hs]
      exact hskip h1 _ _ _ _ _ _ _ _ _ _ _ _ _ _ _ _ _ _ _ _ _ _ _ _ _ _ _ _ _ _ _ _ _ _ _ _ _ _ _ _ _ _ _ _ _ _ _ _ _ _ _ _ _ _ _ _ _ _ _ _ _ _ _ _ _ _ _ _ _ _ _ _ _ _ _ _ _ _ _ _ _ _
    · cases htc0 : (σ.b.get x y).t
      · -- refined
        obtain ⟨sv3, h3, e3, p3, s3⟩ := emit_c he2 (by omega) (refCtx (!(σ.b.get x y).r) (near σ.b x y P.cz)) (bitOf (σ.b.get x y).v P.s)
        have hc1 := le_emit (P := P) he.good (refCtx (!(σ.b.get x y).r) (near σ.b x y P.cz)) (bitOf (σ.b.get x y).v P.s)
        have hq3 := p3.pr.blk
        have hv3 : blk? h3 h.length = some ⟨false, [.int .i64 x, .int .i64 y]⟩ := by
          rw [s3.same h.length (by simp) (by omega) (by omega) (fun e => by have := he.own.lt e; omega)]; exact blk?_push_eq
        have hrf := fun R => refine_c (R := R) p3.pr.cb (x := x) (y := y) (hc1.inb hin)
        obtain ⟨p4, s4⟩ := p3.map (x := x) (y := y) (hc1.inb hin) kv_refine
        have hc2 := hc1.trans (le_map hc1.good (hc1.inb hin) kv_refine)
        have hq4 := p4.pr.blk
        have hv4 : blk? (h3.set c (some ⟨false, encC ((σ.emit P (refCtx (!(σ.b.get x y).r) (near σ.b x y P.cz)) (bitOf (σ.b.get x y).v P.s)).b.upd x y refine').cs⟩)) h.length = some ⟨false, [.int .i64 x, .int .i64 y]⟩ := by
          rw [blk?_set_ne (by omega)]; exact hv3
        have htc := fun R => touch_c (R := R) (v := true) p4.pr.cb (x := x) (y := y) (hc2.inb hin)
        obtain ⟨p5, s5⟩ := p4.map (x := x) (y := y) (hc2.inb hin) (kv_touch true)
        have h1 : σ.ref1 P x y = ((σ.emit P (refCtx (!(σ.b.get x y).r) (near σ.b x y P.cz)) (bitOf (σ.b.get x y).v P.s)).map x y refine').map x y (touch true) := by unfold ES.ref1; rw [if_neg (by simp [hsg, htc0])]
        have hmm : (fun z : Cell => ({ z with t := true } : Cell)) = touch true := rfl
        have hmr : (fun z : Cell => ({ z with r := true } : Cell)) = refine' := rfl
        rw [hmm] at htc
        rw [hmr] at hrf
        have hle1' := hle1.len
        rw [h1] at hle1'
        rw [hsg] at hsig; rw [htc0] at htch
        have st5 := ((hs2.trans s3).trans s4).trans s5
        rw [List.set_set] at p5 st5
        simp only [ES.map_b, ES.emit_b] at hrf htc hv4 hq3 hq4
        simp [-List.cons_append, -List.append_assoc, k_guard, hlt, hw, hs, hb, ht, hle, hK, hq2, hsig, htch, hrfd, hnb, hbit, hcx, e3, hq3, hv3, hrf, hq4, hv4, htc, book, logOf, addLog, chk1, lookL, reload]
        rw [← hs]
        refine ih (i + 1) _ sv3 _ _ _ _ _ _ _ _ _ _ _ _ _ _ _ _ _ _ _ _ _ _ _ _ _ _ _ _ _ _ _ _ _ _ _ _ _ _ _ _ _ _ _ _ _ _ _ _ _ _ _ _ _ _ _ _ _ _ _ _ _ _ _ _ _ _ _ _ _ _ _ _ _ _ _ _ _ _ _ _ _ _ _ (by omega) (by omega) p5 (hf.stp st5) (by rw [← h1]; exact ha.le hle1) (by omega) hpl ?_
        intro h' sv' K1 K2 K3 K4 K5 K6 K7 K8 K9 Ka Kb Kc Kd Ke Kf Kg Kh Ki Kj Kk Kl Km Kn Ko Kp Kq Kr Ks Kt Ku Kv Kw Kx Ky Kz J0 J1 J2 J3 J4 J5 J6 J7 J8 J9 Ja Jb Jc Jd Je Jf Jg Jh Ji Jj Jk Jl Jm Jn Jo Jp Jq Jr Js Jt Ju Jv Jw Jx Jy Jz Y0 Y1 Y2 Y3 Y4 Y5 Y6 Y7 Y8 Y9 Ya Yb Yc Yd pe st
        exact hk h' sv' _ _ _ _ _ _ _ _ _ _ _ _ _ _ _ _ _ _ _ _ _ _ _ _ _ _ _ _ _ _ _ _ _ _ _ _ _ _ _ _ _ _ _ _ _ _ _ _ _ _ _ _ _ _ _ _ _ _ _ _ _ _ _ _ _ _ _ _ _ _ _ _ _ _ _ _ _ _ _ _ _ _ _ _ _ (by rw [hsp _ h1.symm]; exact pe) (st5.trans st)
      · have h1 : σ.ref1 P x y = σ := by unfold ES.ref1; rw [if_pos (.inr htc0)]
        rw [hsg] at hsig; rw [htc0] at htch
        simp [-List.cons_append, -List.append_assoc, k_guard, hlt, hw, hs, hb, ht, hle, hK, hq2, hsig, htch]
        rw [← hs]
        exact hskip h1 _ _ _ _ _ _ _ _ _ _ _ _ _ _ _ _ _ _ _ _ _ _ _ _ _ _ _ _ _ _ _ _ _ _ _ _ _ _ _ _ _ _ _ _ _ _ _ _ _ _ _ _ _ _ _ _ _ _ _ _ _ _ _ _ _ _ _ _ _ _ _ _ _ _ _ _ _ _ _ _ _ _

theorem refinement_p (he : PE h q p c pb ob P sv σ) (hl : σ.out.length ≤ 1000) :
    ∃ sv' h', (∀ R, Ret tab 136 [ptr q] h R = R (.tuple #[]) h') ∧ PE h' q p c pb ob P sv' (σ.refs P (scan σ.b.w σ.b.h)) ∧ Stp h h' c ob sv sv' := by
  have key : Ret tab 136 [ptr q] h fun v h' => v = .tuple #[] ∧ ∃ sv', PE h' q p c pb ob P sv' (σ.refs P (scan σ.b.w σ.b.h)) ∧ Stp h h' c ob sv sv' := by
    obtain ⟨s, h1, e1, p1, s1, f1⟩ := he.scan
    obtain ⟨a, cc, hs⟩ := f1.sl.shape
    have hsl := scan_len he.pr.cb.ok.w2 he.pr.cb.ok.h2
    have hq := he.pr.blk
    rw [enter136, B136]
    simp [hq, e1, hs]
    rw [← hs]
    refine ref_loop _ 0 h1 sv σ _ _ _ _ _ _ _ _ _ _ _ _ _ _ _ _ _ _ _ _ _ _ _ _ _ _ _ _ _ _ _ _ _ _ _ _ _ _ _ _ _ _ _ _ _ _ _ _ _ _ _ _ _ _ _ _ _ _ _ _ _ _ _ _ _ _ _ _ _ _ _ _ _ _ _ _ _ _ _ _ _ _ rfl (by omega) p1 f1 (scanIn σ.b) (by omega) (by omega) ?_
    intro h' sv' K1 K2 K3 K4 K5 K6 K7 K8 K9 Ka Kb Kc Kd Ke Kf Kg Kh Ki Kj Kk Kl Km Kn Ko Kp Kq Kr Ks Kt Ku Kv Kw Kx Ky Kz J0 J1 J2 J3 J4 J5 J6 J7 J8 J9 Ja Jb Jc Jd Je Jf Jg Jh Ji Jj Jk Jl Jm Jn Jo Jp Jq Jr Js Jt Ju Jv Jw Jx Jy Jz Y0 Y1 Y2 Y3 Y4 Y5 Y6 Y7 Y8 Y9 Ya Yb Yc Yd pe st
    simp [fin136]
    exact ⟨sv', by simpa using pe, s1.trans st⟩
  obtain ⟨v, h', e, rfl, sv', pe, st⟩ := ret_ex key
  exact ⟨sv', h', e, pe, st⟩

theorem half {k : Nat} (hk : k < 4) : shrI .i64 (k : Int) 1 = ((k / 2 : Nat) : Int) := by
  have := shrN (i := .i64) (a := k) (b := 1) (by decide)
  simpa using this

/-- The run length of a column. -/
theorem run_loop {x top : Int} {k : List RItem} {v6 : Value} (R : Value → Heap → Prop) (he : PE h q p c pb ob P sv σ) (hn : σ.out.length + 5 < 1000000) (hx : 0 ≤ x ∧ x < σ.b.w) (ht : 0 ≤ top ∧ top + 4 ≤ σ.b.h)
    (hnone : firstBit σ.b P.s x top 4 = none → ∀ K3 K4 K5 K7 K8 K9 Ka Kb Kc Kd Ke Kf Kg Kh Ki Kj Kk Kl Km Kn Ko Kp Kq Kr Ks Kt Ku Kv Kw Kx Ky Kz J0 J1 J2 J3 J4 J5 J6 J7 J8 J9 Ja Jb Jc Jd Je Jf Jg Jh Ji : Value, Ok tab R169 k #[ptr q,.int .i64 x,.int .i64 top,K3,K4,K5,v6,K7,K8,K9,Ka,Kb,Kc,Kd,Ke,Kf,Kg,Kh,Ki,Kj,Kk,Kl,Km,Kn,Ko,Kp,Kq,Kr,Ks,Kt,Ku,Kv,Kw,Kx,Ky,Kz,J0,J1,J2,J3,J4,J5,J6,J7,J8,J9,Ja,Jb,Jc,Jd,Je,Jf,Jg,Jh,Ji] h R)
    (hsome : ∀ j, firstBit σ.b P.s x top 4 = some j → ∀ sv' h', PE h' q p c pb ob P sv' ((((σ.emit P 17 1).emit P 18 (j / 2)).emit P 18 (j % 2)).sign P x (top + j)) → Stp h h' c ob sv sv' → R (.int .i64 (top + j + 1)) h') :
    ∀ (n i : Nat) (K3 K4 K5 K7 K9 Ka Kb Kc Kd Ke Kf Kg Kh Ki Kj Kk Kl Km Kn Ko Kp Kq Kr Ks Kt Ku Kv Kw Kx Ky Kz J0 J1 J2 J3 J4 J5 J6 J7 J8 J9 Ja Jb Jc Jd Je Jf Jg Jh Ji : Value), i + n = 4 → firstBit σ.b P.s x top 4 = (firstBit σ.b P.s x (top + i) n).map (· + i) →
      Ok tab R169 (.inLoop L169_0 :: .inBlock 0 :: k) #[ptr q,.int .i64 x,.int .i64 top,K3,K4,K5,v6,K7,.int .i64 i,K9,Ka,Kb,Kc,Kd,Ke,Kf,Kg,Kh,Ki,Kj,Kk,Kl,Km,Kn,Ko,Kp,Kq,Kr,Ks,Kt,Ku,Kv,Kw,Kx,Ky,Kz,J0,J1,J2,J3,J4,J5,J6,J7,J8,J9,Ja,Jb,Jc,Jd,Je,Jf,Jg,Jh,Ji] h R := by
  intro n
  induction n with
  | zero =>
    intro i K3 K4 K5 K7 K9 Ka Kb Kc Kd Ke Kf Kg Kh Ki Kj Kk Kl Km Kn Ko Kp Kq Kr Ks Kt Ku Kv Kw Kx Ky Kz J0 J1 J2 J3 J4 J5 J6 J7 J8 J9 Ja Jb Jc Jd Je Jf Jg Jh Ji hi hfb
    obtain rfl : i = 4 := by omega
    rw [ok_round, l169_0, L169_0a, L169_0b]
    simp
    exact hnone (by rw [hfb]; simp [firstBit]) _ _ _ _ _ _ _ _ _ _ _ _ _ _ _ _ _ _ _ _ _ _ _ _ _ _ _ _ _ _ _ _ _ _ _ _ _ _ _ _ _ _ _ _ _ _ _ _ _ _ _
  | succ n ih =>
    intro i K3 K4 K5 K7 K9 Ka Kb Kc Kd Ke Kf Kg Kh Ki Kj Kk Kl Km Kn Ko Kp Kq Kr Ks Kt Ku Kv Kw Kx Ky Kz J0 J1 J2 J3 J4 J5 J6 J7 J8 J9 Ja Jb Jc Jd Je Jf Jg Jh Ji hi hfb
    have hb2 := he.pr.cb.ok.h2
    have hlt : (i : Int) < 4 := by omega
    have hw1 : IntKind.i64.wrap ((i : Int) + 1) = (i : Int) + 1 := wrapN (n := i + 1) (by omega)
    have hw2 : IntKind.i64.wrap (top + (i : Int)) = top + (i : Int) := wrapI (by omega) (by omega)
    have hw3 : IntKind.i64.wrap (top + (i : Int) + 1) = top + (i : Int) + 1 := wrapI (by omega) (by omega)
    have hbit := fun R => bit_c (R := R) (x := x) (y := top + i) he.pr
    have hq := he.pr.blk
    rw [ok_round, l169_0, L169_0a, L169_0b]
    by_cases hb : bitOf (σ.b.get x (top + i)).v P.s = 1
    · have hfb' : firstBit σ.b P.s x top 4 = some i := by rw [hfb]; simp [firstBit, hb]
      obtain ⟨sv1, h1, e1, p1, s1⟩ := emit_c he (by omega) 17 1
      obtain ⟨sv2, h2, e2, p2, s2⟩ := emit_c p1 (by simp [ES.emit]; omega) 18 (i / 2)
      obtain ⟨sv3, h3, e3, p3, s3⟩ := emit_c p2 (by simp [ES.emit]; omega) 18 (i % 2)
      obtain ⟨sv4, h4, e4, p4, s4⟩ := sign_p p3 (by simp [ES.emit]; omega) (x := x) (y := top + i) ⟨hx.1, hx.2, by omega, by show top + (i : Int) < σ.b.h; omega⟩
      have hq1 := p1.pr.blk
      have hq2 := p2.pr.blk
      have hq3 := p3.pr.blk
      rw [hb] at hbit
      have hsh := half (k := i) (by omega)
      have han := and1 (a := i) (by omega)
      simp only [Int.natCast_one] at e1 hbit
      simp [-Int.natCast_ediv, -Int.natCast_emod, hlt, hw1, hw2, hw3, hbit, hq, e1, hq1, hsh, e2, hq2, han, e3, hq3, e4, fin169]
      exact hsome i hfb' sv4 h4 p4 (((s1.trans s2).trans s3).trans s4)
    · have hb0 : bitOf (σ.b.get x (top + i)).v P.s = 0 := by unfold bitOf at *; omega
      rw [hb0] at hbit
      simp only [Int.natCast_zero] at hbit
      simp [hlt, hw1, hw2, hbit]
      refine ih (i + 1) _ _ _ _ _ _ _ _ _ _ _ _ _ _ _ _ _ _ _ _ _ _ _ _ _ _ _ _ _ _ _ _ _ _ _ _ _ _ _ _ _ _ _ _ _ _ _ _ _ _ (by omega) ?_
      rw [hfb, firstBit, if_neg hb]
      rw [show top + ((i + 1 : Nat) : Int) = top + i + 1 by omega]
      cases firstBit σ.b P.s x (top + i + 1) n with
      | none => rfl
      | some j => simp; omega

theorem run_p (he : PE h q p c pb ob P sv σ) (hn : σ.out.length + 5 < 1000000) {x top : Int} (hx : 0 ≤ x ∧ x < σ.b.w) (ht : 0 ≤ top ∧ top + 4 ≤ σ.b.h) :
    ∃ sv' h', (∀ R, Ret tab 169 [ptr q, .int .i64 x, .int .i64 top] h R = R (.int .i64 (σ.run P x top).2) h') ∧ PE h' q p c pb ob P sv' (σ.run P x top).1 ∧ Stp h h' c ob sv sv' := by
  have key : Ret tab 169 [ptr q, .int .i64 x, .int .i64 top] h fun v h' => v = .int .i64 (σ.run P x top).2 ∧ ∃ sv', PE h' q p c pb ob P sv' (σ.run P x top).1 ∧ Stp h h' c ob sv sv' := by
    have hb2 := he.pr.cb.ok.h2
    rw [enter169, B169]
    simp
    refine run_loop _ he hn hx ht ?_ ?_ 4 0 _ _ _ _ _ _ _ _ _ _ _ _ _ _ _ _ _ _ _ _ _ _ _ _ _ _ _ _ _ _ _ _ _ _ _ _ _ _ _ _ _ _ _ _ _ _ _ _ _ _ (by omega) ?_
    · intro hnone K3 K4 K5 K7 K8 K9 Ka Kb Kc Kd Ke Kf Kg Kh Ki Kj Kk Kl Km Kn Ko Kp Kq Kr Ks Kt Ku Kv Kw Kx Ky Kz J0 J1 J2 J3 J4 J5 J6 J7 J8 J9 Ja Jb Jc Jd Je Jf Jg Jh Ji
      obtain ⟨sv1, h1, e1, p1, s1⟩ := emit_c he (by omega) 17 0
      have hq := he.pr.blk
      have hw : IntKind.i64.wrap (top + 4) = top + 4 := wrapI (by omega) (by omega)
      have hr : σ.run P x top = (σ.emit P 17 0, top + 4) := by unfold ES.run; rw [hnone]
      rw [hr]
      simp only [Int.natCast_zero] at e1
      simp [hq, e1, hw, fin169]
      exact ⟨sv1, p1, s1⟩
    · intro j hj sv' h' pe st
      have hr : σ.run P x top = ((((σ.emit P 17 1).emit P 18 (j / 2)).emit P 18 (j % 2)).sign P x (top + j), top + j + 1) := by unfold ES.run; rw [hj]
      rw [hr]
      exact ⟨rfl, sv', pe, st⟩
    · simp
  obtain ⟨v, h', e, rfl, sv', pe, st⟩ := ret_ex key
  exact ⟨sv', h', e, pe, st⟩
end
section
variable {h : Heap} {q p c pb ob : Nat} {P : PP} {sv : Value} {σ : ES} {k : List RItem} {R : Value → Heap → Prop} {v1 : Value}

theorem rows_loop {w hh : Nat} (hw2 : w ≤ 64) (hh2 : hh ≤ 64) {x top : Int} {v22 v23 : Value} (hx : 0 ≤ x ∧ x < w) (ht : 0 ≤ top ∧ top < hh) :
    ∀ (n : Nat) (y : Int) (h : Heap) (sv : Value) (σ : ES) (K2 K3 K7 K8 K9 Ka Kb Kc Kd Ke Kf Kg Kh Ki Kj Kk Kl Ko Kp Kq Kr Ks Kt Ku Kv Kw Kx Ky Kz J0 J1 J2 J3 J4 J5 J6 J7 J8 J9 Ja Jb Jc Jd Je Jf Jg Jh Ji Jj Jk Jl Jm Jn Jo Jp Jq Jr Js Jt Ju Jv Jw Jx Jy Jz Y0 Y1 Y2 Y3 Y4 Y5 Y6 Y7 Y8 Y9 Ya Yb Yc Yd Ye Yf Yg Yh Yi Yj Yk Yl Ym Yn Yo Yp Yq Yr Ys Yt Yu Yv Yw Yx Yy Yz Z0 Z1 Z2 : Value), y + n = min (top + 4) hh → 0 ≤ y → σ.b.w = w → σ.b.h = hh → PE h q p c pb ob P sv σ → σ.out.length + 2 * n + 3 < 1000000 →
      (∀ (h' : Heap) (sv' : Value) (y' : Int) (K2 K3 K7 K8 K9 Ka Kb Kc Kd Ke Kf Kg Kh Ki Kj Kk Kl Ko Kp Kq Kr Ks Kt Ku Kv Kw Kx Ky Kz J0 J1 J2 J3 J4 J5 J6 J7 J8 J9 Ja Jb Jc Jd Je Jf Jg Jh Ji Jj Jk Jl Jm Jn Jo Jp Jq Jr Js Jt Ju Jv Jw Jx Jy Jz Y0 Y1 Y2 Y3 Y4 Y5 Y6 Y7 Y8 Y9 Ya Yb Yc Yd Ye Yf Yg Yh Yi Yj Yk Yl Ym Yn Yo Yp Yq Yr Ys Yt Yu Yv Yw Yx Yy Yz Z0 Z1 Z2 : Value), PE h' q p c pb ob P sv' (σ.rows P x y n) → Stp h h' c ob sv sv' →
        Ok tab R137 k #[ptr q,v1,K2,K3,.int .i64 top,.int .i64 x,.int .i64 y',K7,K8,K9,Ka,Kb,Kc,Kd,Ke,Kf,Kg,Kh,Ki,Kj,Kk,Kl,v22,v23,Ko,Kp,Kq,Kr,Ks,Kt,Ku,Kv,Kw,Kx,Ky,Kz,J0,J1,J2,J3,J4,J5,J6,J7,J8,J9,Ja,Jb,Jc,Jd,Je,Jf,Jg,Jh,Ji,Jj,Jk,Jl,Jm,Jn,Jo,Jp,Jq,Jr,Js,Jt,Ju,Jv,Jw,Jx,Jy,Jz,Y0,Y1,Y2,Y3,Y4,Y5,Y6,Y7,Y8,Y9,Ya,Yb,Yc,Yd,Ye,Yf,Yg,Yh,Yi,Yj,Yk,Yl,Ym,Yn,Yo,Yp,Yq,Yr,Ys,Yt,Yu,Yv,Yw,Yx,Yy,Yz,Z0,Z1,Z2] h' R) →
      Ok tab R137 (.inLoop L137_0 :: .inBlock 4 :: k) #[ptr q,v1,K2,K3,.int .i64 top,.int .i64 x,.int .i64 y,K7,K8,K9,Ka,Kb,Kc,Kd,Ke,Kf,Kg,Kh,Ki,Kj,Kk,Kl,v22,v23,Ko,Kp,Kq,Kr,Ks,Kt,Ku,Kv,Kw,Kx,Ky,Kz,J0,J1,J2,J3,J4,J5,J6,J7,J8,J9,Ja,Jb,Jc,Jd,Je,Jf,Jg,Jh,Ji,Jj,Jk,Jl,Jm,Jn,Jo,Jp,Jq,Jr,Js,Jt,Ju,Jv,Jw,Jx,Jy,Jz,Y0,Y1,Y2,Y3,Y4,Y5,Y6,Y7,Y8,Y9,Ya,Yb,Yc,Yd,Ye,Yf,Yg,Yh,Yi,Yj,Yk,Yl,Ym,Yn,Yo,Yp,Yq,Yr,Ys,Yt,Yu,Yv,Yw,Yx,Yy,Yz,Z0,Z1,Z2] h R := by
  intro n
  induction n with
  | zero =>
    intro y h sv σ K2 K3 K7 K8 K9 Ka Kb Kc Kd Ke Kf Kg Kh Ki Kj Kk Kl Ko Kp Kq Kr Ks Kt Ku Kv Kw Kx Ky Kz J0 J1 J2 J3 J4 J5 J6 J7 J8 J9 Ja Jb Jc Jd Je Jf Jg Jh Ji Jj Jk Jl Jm Jn Jo Jp Jq Jr Js Jt Ju Jv Jw Jx Jy Jz Y0 Y1 Y2 Y3 Y4 Y5 Y6 Y7 Y8 Y9 Ya Yb Yc Yd Ye Yf Yg Yh Yi Yj Yk Yl Ym Yn Yo Yp Yq Yr Ys Yt Yu Yv Yw Yx Yy Yz Z0 Z1 Z2 hy h0 hw hh' he hl hk
    have hq := he.pr.blk
    rw [hw, hh'] at hq
    have hw4 : IntKind.i64.wrap (top + 4) = top + 4 := wrapI (by omega) (by omega)
    have hlt : ¬ y < min (top + 4) (hh : Int) := by omega
    rw [ok_round, l137_0, L137_0a, L137_0b]
    simp [hq, hw4, fold1, foldO, min2V, min4 (hh := hh) ht.1]
    simp [hlt]
    exact hk h sv y _ _ _ _ _ _ _ _ _ _ _ _ _ _ _ _ _ _ _ _ _ _ _ _ _ _ _ _ _ _ _ _ _ _ _ _ _ _ _ _ _ _ _ _ _ _ _ _ _ _ _ _ _ _ _ _ _ _ _ _ _ _ _ _ _ _ _ _ _ _ _ _ _ _ _ _ _ _ _ _ _ _ _ _ _ _ _ _ _ _ _ _ _ _ _ _ _ _ _ _ _ _ _ _ he (Stp.refl _ _ _ _)
  | succ n ih =>
    intro y h sv σ K2 K3 K7 K8 K9 Ka Kb Kc Kd Ke Kf Kg Kh Ki Kj Kk Kl Ko Kp Kq Kr Ks Kt Ku Kv Kw Kx Ky Kz J0 J1 J2 J3 J4 J5 J6 J7 J8 J9 Ja Jb Jc Jd Je Jf Jg Jh Ji Jj Jk Jl Jm Jn Jo Jp Jq Jr Js Jt Ju Jv Jw Jx Jy Jz Y0 Y1 Y2 Y3 Y4 Y5 Y6 Y7 Y8 Y9 Ya Yb Yc Yd Ye Yf Yg Yh Yi Yj Yk Yl Ym Yn Yo Yp Yq Yr Ys Yt Yu Yv Yw Yx Yy Yz Z0 Z1 Z2 hy h0 hw hh' he hl hk
    have hq := he.pr.blk
    rw [hw, hh'] at hq
    have hw4 : IntKind.i64.wrap (top + 4) = top + 4 := wrapI (by omega) (by omega)
    have hw1 : IntKind.i64.wrap (y + 1) = y + 1 := wrapI (by omega) (by omega)
    have hlt : y < min (top + 4) (hh : Int) := by omega
    have hin : σ.b.inb x y := ⟨hx.1, by rw [hw]; exact hx.2, h0, by rw [hh']; omega⟩
    have hsig := fun R => significant_c (R := R) (x := x) (y := y) he.pr.cb
    have htch := fun R => touched_c (R := R) (x := x) (y := y) he.pr.cb
    have hle := le_cln1 (P := P) he.good hin
    have hskip : σ.cln1 P x y = σ → ∀ K2 K3 K7 K8 K9 Ka Kb Kc Kd Ke Kf Kg Kh Ki Kj Kk Kl Ko Kp Kq Kr Ks Kt Ku Kv Kw Kx Ky Kz J0 J1 J2 J3 J4 J5 J6 J7 J8 J9 Ja Jb Jc Jd Je Jf Jg Jh Ji Jj Jk Jl Jm Jn Jo Jp Jq Jr Js Jt Ju Jv Jw Jx Jy Jz Y0 Y1 Y2 Y3 Y4 Y5 Y6 Y7 Y8 Y9 Ya Yb Yc Yd Ye Yf Yg Yh Yi Yj Yk Yl Ym Yn Yo Yp Yq Yr Ys Yt Yu Yv Yw Yx Yy Yz Z0 Z1 Z2 : Value, Ok tab R137 (.inLoop L137_0 :: .inBlock 4 :: k) #[ptr q,v1,K2,K3,.int .i64 top,.int .i64 x,.int .i64 (y + 1),K7,K8,K9,Ka,Kb,Kc,Kd,Ke,Kf,Kg,Kh,Ki,Kj,Kk,Kl,v22,v23,Ko,Kp,Kq,Kr,Ks,Kt,Ku,Kv,Kw,Kx,Ky,Kz,J0,J1,J2,J3,J4,J5,J6,J7,J8,J9,Ja,Jb,Jc,Jd,Je,Jf,Jg,Jh,Ji,Jj,Jk,Jl,Jm,Jn,Jo,Jp,Jq,Jr,Js,Jt,Ju,Jv,Jw,Jx,Jy,Jz,Y0,Y1,Y2,Y3,Y4,Y5,Y6,Y7,Y8,Y9,Ya,Yb,Yc,Yd,Ye,Yf,Yg,Yh,Yi,Yj,Yk,Yl,Ym,Yn,Yo,Yp,Yq,Yr,Ys,Yt,Yu,Yv,Yw,Yx,Yy,Yz,Z0,Z1,Z2] h R := by
      intro h1 K2 K3 K7 K8 K9 Ka Kb Kc Kd Ke Kf Kg Kh Ki Kj Kk Kl Ko Kp Kq Kr Ks Kt Ku Kv Kw Kx Ky Kz J0 J1 J2 J3 J4 J5 J6 J7 J8 J9 Ja Jb Jc Jd Je Jf Jg Jh Ji Jj Jk Jl Jm Jn Jo Jp Jq Jr Js Jt Ju Jv Jw Jx Jy Jz Y0 Y1 Y2 Y3 Y4 Y5 Y6 Y7 Y8 Y9 Ya Yb Yc Yd Ye Yf Yg Yh Yi Yj Yk Yl Ym Yn Yo Yp Yq Yr Ys Yt Yu Yv Yw Yx Yy Yz Z0 Z1 Z2
      refine ih (y + 1) h sv σ _ _ _ _ _ _ _ _ _ _ _ _ _ _ _ _ _ _ _ _ _ _ _ _ _ _ _ _ _ _ _ _ _ _ _ _ _ _ _ _ _ _ _ _ _ _ _ _ _ _ _ _ _ _ _ _ _ _ _ _ _ _ _ _ _ _ _ _ _ _ _ _ _ _ _ _ _ _ _ _ _ _ _ _ _ _ _ _ _ _ _ _ _ _ _ _ _ _ _ _ _ _ _ _ (by omega) (by omega) hw hh' he (by omega) ?_
      intro h' sv' y' K2 K3 K7 K8 K9 Ka Kb Kc Kd Ke Kf Kg Kh Ki Kj Kk Kl Ko Kp Kq Kr Ks Kt Ku Kv Kw Kx Ky Kz J0 J1 J2 J3 J4 J5 J6 J7 J8 J9 Ja Jb Jc Jd Je Jf Jg Jh Ji Jj Jk Jl Jm Jn Jo Jp Jq Jr Js Jt Ju Jv Jw Jx Jy Jz Y0 Y1 Y2 Y3 Y4 Y5 Y6 Y7 Y8 Y9 Ya Yb Yc Yd Ye Yf Yg Yh Yi Yj Yk Yl Ym Yn Yo Yp Yq Yr Ys Yt Yu Yv Yw Yx Yy Yz Z0 Z1 Z2 pe st
      exact hk h' sv' y' _ _ _ _ _ _ _ _ _ _ _ _ _ _ _ _ _ _ _ _ _ _ _ _ _ _ _ _ _ _ _ _ _ _ _ _ _ _ _ _ _ _ _ _ _ _ _ _ _ _ _ _ _ _ _ _ _ _ _ _ _ _ _ _ _ _ _ _ _ _ _ _ _ _ _ _ _ _ _ _ _ _ _ _ _ _ _ _ _ _ _ _ _ _ _ _ _ _ _ _ _ _ _ _ (by rw [ES.rows, h1]; exact pe) st
    rw [ok_round, l137_0, L137_0a, L137_0b]
    simp [hq, hw4, fold1, foldO, min2V, min4 (hh := hh) ht.1]
    cases hsg : (σ.b.get x y).s
    · cases htc : (σ.b.get x y).t
      · have h1 : σ.cln1 P x y = σ.code P x y := by unfold ES.cln1; rw [if_pos ⟨hsg, htc⟩]
        obtain ⟨sv1, h2, e1, p1, s1⟩ := code_p he (by omega) hin
        rw [hsg] at hsig; rw [htc] at htch
        simp [k_guard, hlt, hw1, hq, hsig, htch, e1]
        rw [← h1] at p1
        refine ih (y + 1) h2 sv1 _ _ _ _ _ _ _ _ _ _ _ _ _ _ _ _ _ _ _ _ _ _ _ _ _ _ _ _ _ _ _ _ _ _ _ _ _ _ _ _ _ _ _ _ _ _ _ _ _ _ _ _ _ _ _ _ _ _ _ _ _ _ _ _ _ _ _ _ _ _ _ _ _ _ _ _ _ _ _ _ _ _ _ _ _ _ _ _ _ _ _ _ _ _ _ _ _ _ _ _ _ _ _ _ _ (by omega) (by omega) (by rw [hle.w]; exact hw) (by rw [hle.h]; exact hh') p1 (by have := hle.len; omega) ?_
        intro h' sv' y' K2 K3 K7 K8 K9 Ka Kb Kc Kd Ke Kf Kg Kh Ki Kj Kk Kl Ko Kp Kq Kr Ks Kt Ku Kv Kw Kx Ky Kz J0 J1 J2 J3 J4 J5 J6 J7 J8 J9 Ja Jb Jc Jd Je Jf Jg Jh Ji Jj Jk Jl Jm Jn Jo Jp Jq Jr Js Jt Ju Jv Jw Jx Jy Jz Y0 Y1 Y2 Y3 Y4 Y5 Y6 Y7 Y8 Y9 Ya Yb Yc Yd Ye Yf Yg Yh Yi Yj Yk Yl Ym Yn Yo Yp Yq Yr Ys Yt Yu Yv Yw Yx Yy Yz Z0 Z1 Z2 pe st
        exact hk h' sv' y' _ _ _ _ _ _ _ _ _ _ _ _ _ _ _ _ _ _ _ _ _ _ _ _ _ _ _ _ _ _ _ _ _ _ _ _ _ _ _ _ _ _ _ _ _ _ _ _ _ _ _ _ _ _ _ _ _ _ _ _ _ _ _ _ _ _ _ _ _ _ _ _ _ _ _ _ _ _ _ _ _ _ _ _ _ _ _ _ _ _ _ _ _ _ _ _ _ _ _ _ _ _ _ _ (by rw [ES.rows]; exact pe) (s1.trans st)
      · have h1 : σ.cln1 P x y = σ := by unfold ES.cln1; rw [if_neg (by simp [htc])]
        rw [hsg] at hsig; rw [htc] at htch
        simp [k_guard, hlt, hw1, hq, hsig, htch]
        exact hskip h1 _ _ _ _ _ _ _ _ _ _ _ _ _ _ _ _ _ _ _ _ _ _ _ _ _ _ _ _ _ _ _ _ _ _ _ _ _ _ _ _ _ _ _ _ _ _ _ _ _ _ _ _ _ _ _ _ _ _ _ _ _ _ _ _ _ _ _ _ _ _ _ _ _ _ _ _ _ _ _ _ _ _ _ _ _ _ _ _ _ _ _ _ _ _ _ _ _ _ _ _ _ _ _ _
    · have h1 : σ.cln1 P x y = σ := by unfold ES.cln1; rw [if_neg (by simp [hsg])]
      rw [hsg] at hsig
      simp [k_guard, k_guardU, hlt, hw1, hq, hsig]
      exact hskip h1 _ _ _ _ _ _ _ _ _ _ _ _ _ _ _ _ _ _ _ _ _ _ _ _ _ _ _ _ _ _ _ _ _ _ _ _ _ _ _ _ _ _ _ _ _ _ _ _ _ _ _ _ _ _ _ _ _ _ _ _ _ _ _ _ _ _ _ _ _ _ _ _ _ _ _ _ _ _ _ _ _ _ _ _ _ _ _ _ _ _ _ _ _ _ _ _ _ _ _ _ _ _ _ _

theorem cols_loop {w hh : Nat} (hw2 : w ≤ 64) (hh2 : hh ≤ 64) {top : Int} (ht : 0 ≤ top ∧ top < hh) :
    ∀ (n : Nat) (x : Int) (h : Heap) (sv : Value) (σ : ES) (K2 K3 K5 K6 K7 K8 K9 Ka Kb Kc Kd Ke Kf Kg Kh Ki Kj Kk Kl Ko Kp Kq Kr Ks Kt Ku Kv Kw Kx Ky Kz J0 J1 J2 J3 J4 J5 J6 J7 J8 J9 Ja Jb Jc Jd Je Jf Jg Jh Ji Jj Jk Jl Jm Jn Jo Jp Jq Jr Js Jt Ju Jv Jw Jx Jy Jz Y0 Y1 Y2 Y3 Y4 Y5 Y6 Y7 Y8 Y9 Ya Yb Yc Yd Ye Yf Yg Yh Yi Yj Yk Yl Ym Yn Yo Yp Yq Yr Ys Yt Yu Yv Yw Yx Yy Yz Z0 Z1 Z2 : Value), x + n = w → 0 ≤ x → σ.b.w = w → σ.b.h = hh → PE h q p c pb ob P sv σ → σ.out.length + 12 * n + 20 < 1000000 →
      (∀ (h' : Heap) (sv' : Value) (K2 K3 K5 K6 K7 K8 K9 Ka Kb Kc Kd Ke Kf Kg Kh Ki Kj Kk Kl Km Kn Ko Kp Kq Kr Ks Kt Ku Kv Kw Kx Ky Kz J0 J1 J2 J3 J4 J5 J6 J7 J8 J9 Ja Jb Jc Jd Je Jf Jg Jh Ji Jj Jk Jl Jm Jn Jo Jp Jq Jr Js Jt Ju Jv Jw Jx Jy Jz Y0 Y1 Y2 Y3 Y4 Y5 Y6 Y7 Y8 Y9 Ya Yb Yc Yd Ye Yf Yg Yh Yi Yj Yk Yl Ym Yn Yo Yp Yq Yr Ys Yt Yu Yv Yw Yx Yy Yz Z0 Z1 Z2 : Value), PE h' q p c pb ob P sv' (σ.cols P x top n) → Stp h h' c ob sv sv' →
        Ok tab R137 k #[ptr q,v1,K2,K3,.int .i64 top,K5,K6,K7,K8,K9,Ka,Kb,Kc,Kd,Ke,Kf,Kg,Kh,Ki,Kj,Kk,Kl,Km,Kn,Ko,Kp,Kq,Kr,Ks,Kt,Ku,Kv,Kw,Kx,Ky,Kz,J0,J1,J2,J3,J4,J5,J6,J7,J8,J9,Ja,Jb,Jc,Jd,Je,Jf,Jg,Jh,Ji,Jj,Jk,Jl,Jm,Jn,Jo,Jp,Jq,Jr,Js,Jt,Ju,Jv,Jw,Jx,Jy,Jz,Y0,Y1,Y2,Y3,Y4,Y5,Y6,Y7,Y8,Y9,Ya,Yb,Yc,Yd,Ye,Yf,Yg,Yh,Yi,Yj,Yk,Yl,Ym,Yn,Yo,Yp,Yq,Yr,Ys,Yt,Yu,Yv,Yw,Yx,Yy,Yz,Z0,Z1,Z2] h' R) →
      Ok tab R137 (.inLoop L137_1 :: .inBlock 2 :: k) #[ptr q,v1,K2,K3,.int .i64 top,K5,K6,K7,K8,K9,Ka,Kb,Kc,Kd,Ke,Kf,Kg,Kh,Ki,Kj,Kk,Kl,.int .i64 w,.int .i64 x,Ko,Kp,Kq,Kr,Ks,Kt,Ku,Kv,Kw,Kx,Ky,Kz,J0,J1,J2,J3,J4,J5,J6,J7,J8,J9,Ja,Jb,Jc,Jd,Je,Jf,Jg,Jh,Ji,Jj,Jk,Jl,Jm,Jn,Jo,Jp,Jq,Jr,Js,Jt,Ju,Jv,Jw,Jx,Jy,Jz,Y0,Y1,Y2,Y3,Y4,Y5,Y6,Y7,Y8,Y9,Ya,Yb,Yc,Yd,Ye,Yf,Yg,Yh,Yi,Yj,Yk,Yl,Ym,Yn,Yo,Yp,Yq,Yr,Ys,Yt,Yu,Yv,Yw,Yx,Yy,Yz,Z0,Z1,Z2] h R := by
  intro n
  induction n with
  | zero =>
    intro x h sv σ K2 K3 K5 K6 K7 K8 K9 Ka Kb Kc Kd Ke Kf Kg Kh Ki Kj Kk Kl Ko Kp Kq Kr Ks Kt Ku Kv Kw Kx Ky Kz J0 J1 J2 J3 J4 J5 J6 J7 J8 J9 Ja Jb Jc Jd Je Jf Jg Jh Ji Jj Jk Jl Jm Jn Jo Jp Jq Jr Js Jt Ju Jv Jw Jx Jy Jz Y0 Y1 Y2 Y3 Y4 Y5 Y6 Y7 Y8 Y9 Ya Yb Yc Yd Ye Yf Yg Yh Yi Yj Yk Yl Ym Yn Yo Yp Yq Yr Ys Yt Yu Yv Yw Yx Yy Yz Z0 Z1 Z2 hx h0 hw hh' he hl hk
    have hlt : ¬ x < (w : Int) := by omega
    rw [ok_round, l137_1, L137_1a, L137_1b]
    simp [hlt]
    exact hk h sv _ _ _ _ _ _ _ _ _ _ _ _ _ _ _ _ _ _ _ _ _ _ _ _ _ _ _ _ _ _ _ _ _ _ _ _ _ _ _ _ _ _ _ _ _ _ _ _ _ _ _ _ _ _ _ _ _ _ _ _ _ _ _ _ _ _ _ _ _ _ _ _ _ _ _ _ _ _ _ _ _ _ _ _ _ _ _ _ _ _ _ _ _ _ _ _ _ _ _ _ _ _ _ _ _ _ _ _ he (Stp.refl _ _ _ _)
  | succ n ih =>
    intro x h sv σ K2 K3 K5 K6 K7 K8 K9 Ka Kb Kc Kd Ke Kf Kg Kh Ki Kj Kk Kl Ko Kp Kq Kr Ks Kt Ku Kv Kw Kx Ky Kz J0 J1 J2 J3 J4 J5 J6 J7 J8 J9 Ja Jb Jc Jd Je Jf Jg Jh Ji Jj Jk Jl Jm Jn Jo Jp Jq Jr Js Jt Ju Jv Jw Jx Jy Jz Y0 Y1 Y2 Y3 Y4 Y5 Y6 Y7 Y8 Y9 Ya Yb Yc Yd Ye Yf Yg Yh Yi Yj Yk Yl Ym Yn Yo Yp Yq Yr Ys Yt Yu Yv Yw Yx Yy Yz Z0 Z1 Z2 hx h0 hw hh' he hl hk
    have hlt : x < (w : Int) := by omega
    have hw1 : IntKind.i64.wrap (x + 1) = x + 1 := wrapI (by omega) (by omega)
    have hw4 : IntKind.i64.wrap (top + 4) = top + 4 := wrapI (by omega) (by omega)
    have hq := he.pr.blk
    have hin : σ.b.inb x top := ⟨h0, by rw [hw]; exact hlt, ht.1, by rw [hh']; exact ht.2⟩
    have hqt := fun R => quiet_p (R := R) (x := x) (top := top) he.pr ⟨h0, by rw [hw]; exact hlt⟩ ⟨ht.1, by rw [hh']; exact ht.2⟩
    have hle := le_col (P := P) he.good hin
    -- the next column
    have hnext : ∀ (h' : Heap) (sv' : Value) (K2 K3 K5 K6 K7 K8 K9 Ka Kb Kc Kd Ke Kf Kg Kh Ki Kj Kk Kl Ko Kp Kq Kr Ks Kt Ku Kv Kw Kx Ky Kz J0 J1 J2 J3 J4 J5 J6 J7 J8 J9 Ja Jb Jc Jd Je Jf Jg Jh Ji Jj Jk Jl Jm Jn Jo Jp Jq Jr Js Jt Ju Jv Jw Jx Jy Jz Y0 Y1 Y2 Y3 Y4 Y5 Y6 Y7 Y8 Y9 Ya Yb Yc Yd Ye Yf Yg Yh Yi Yj Yk Yl Ym Yn Yo Yp Yq Yr Ys Yt Yu Yv Yw Yx Yy Yz Z0 Z1 Z2 : Value), PE h' q p c pb ob P sv' (σ.col P x top) → Stp h h' c ob sv sv' →
        Ok tab R137 (.inLoop L137_1 :: .inBlock 2 :: k) #[ptr q,v1,K2,K3,.int .i64 top,K5,K6,K7,K8,K9,Ka,Kb,Kc,Kd,Ke,Kf,Kg,Kh,Ki,Kj,Kk,Kl,.int .i64 w,.int .i64 (x + 1),Ko,Kp,Kq,Kr,Ks,Kt,Ku,Kv,Kw,Kx,Ky,Kz,J0,J1,J2,J3,J4,J5,J6,J7,J8,J9,Ja,Jb,Jc,Jd,Je,Jf,Jg,Jh,Ji,Jj,Jk,Jl,Jm,Jn,Jo,Jp,Jq,Jr,Js,Jt,Ju,Jv,Jw,Jx,Jy,Jz,Y0,Y1,Y2,Y3,Y4,Y5,Y6,Y7,Y8,Y9,Ya,Yb,Yc,Yd,Ye,Yf,Yg,Yh,Yi,Yj,Yk,Yl,Ym,Yn,Yo,Yp,Yq,Yr,Ys,Yt,Yu,Yv,Yw,Yx,Yy,Yz,Z0,Z1,Z2] h' R := by
      intro h' sv' K2 K3 K5 K6 K7 K8 K9 Ka Kb Kc Kd Ke Kf Kg Kh Ki Kj Kk Kl Ko Kp Kq Kr Ks Kt Ku Kv Kw Kx Ky Kz J0 J1 J2 J3 J4 J5 J6 J7 J8 J9 Ja Jb Jc Jd Je Jf Jg Jh Ji Jj Jk Jl Jm Jn Jo Jp Jq Jr Js Jt Ju Jv Jw Jx Jy Jz Y0 Y1 Y2 Y3 Y4 Y5 Y6 Y7 Y8 Y9 Ya Yb Yc Yd Ye Yf Yg Yh Yi Yj Yk Yl Ym Yn Yo Yp Yq Yr Ys Yt Yu Yv Yw Yx Yy Yz Z0 Z1 Z2 pe st
      refine ih (x + 1) h' sv' _ _ _ _ _ _ _ _ _ _ _ _ _ _ _ _ _ _ _ _ _ _ _ _ _ _ _ _ _ _ _ _ _ _ _ _ _ _ _ _ _ _ _ _ _ _ _ _ _ _ _ _ _ _ _ _ _ _ _ _ _ _ _ _ _ _ _ _ _ _ _ _ _ _ _ _ _ _ _ _ _ _ _ _ _ _ _ _ _ _ _ _ _ _ _ _ _ _ _ _ _ _ _ _ _ _ _ (by omega) (by omega) (by rw [hle.w]; exact hw) (by rw [hle.h]; exact hh') pe (by have := hle.len; omega) ?_
      intro h'' sv'' K2 K3 K5 K6 K7 K8 K9 Ka Kb Kc Kd Ke Kf Kg Kh Ki Kj Kk Kl Km Kn Ko Kp Kq Kr Ks Kt Ku Kv Kw Kx Ky Kz J0 J1 J2 J3 J4 J5 J6 J7 J8 J9 Ja Jb Jc Jd Je Jf Jg Jh Ji Jj Jk Jl Jm Jn Jo Jp Jq Jr Js Jt Ju Jv Jw Jx Jy Jz Y0 Y1 Y2 Y3 Y4 Y5 Y6 Y7 Y8 Y9 Ya Yb Yc Yd Ye Yf Yg Yh Yi Yj Yk Yl Ym Yn Yo Yp Yq Yr Ys Yt Yu Yv Yw Yx Yy Yz Z0 Z1 Z2 pe2 st2
      exact hk h'' sv'' _ _ _ _ _ _ _ _ _ _ _ _ _ _ _ _ _ _ _ _ _ _ _ _ _ _ _ _ _ _ _ _ _ _ _ _ _ _ _ _ _ _ _ _ _ _ _ _ _ _ _ _ _ _ _ _ _ _ _ _ _ _ _ _ _ _ _ _ _ _ _ _ _ _ _ _ _ _ _ _ _ _ _ _ _ _ _ _ _ _ _ _ _ _ _ _ _ _ _ _ _ _ _ _ _ _ _ _ (by rw [ES.cols]; exact pe2) (st.trans st2)
    rw [ok_round, l137_1, L137_1a, L137_1b]
    cases hqq : quiet σ.b x top P.cz
    · -- no run length
      have hcol : σ.col P x top = σ.rows P x top (min (top + 4) σ.b.h - top).toNat := by unfold ES.col; rw [if_neg (by simp [hqq])]
      rw [hqq] at hqt
      simp [hlt, hqt]
      refine rows_loop hw2 hh2 ⟨h0, hlt⟩ ht (min (top + 4) (hh : Int) - top).toNat top h sv σ _ _ _ _ _ _ _ _ _ _ _ _ _ _ _ _ _ _ _ _ _ _ _ _ _ _ _ _ _ _ _ _ _ _ _ _ _ _ _ _ _ _ _ _ _ _ _ _ _ _ _ _ _ _ _ _ _ _ _ _ _ _ _ _ _ _ _ _ _ _ _ _ _ _ _ _ _ _ _ _ _ _ _ _ _ _ _ _ _ _ _ _ _ _ _ _ _ _ _ _ _ _ _ _ (by omega) ht.1 hw hh' he (by omega) ?_
      intro h' sv' y' K2 K3 K7 K8 K9 Ka Kb Kc Kd Ke Kf Kg Kh Ki Kj Kk Kl Ko Kp Kq Kr Ks Kt Ku Kv Kw Kx Ky Kz J0 J1 J2 J3 J4 J5 J6 J7 J8 J9 Ja Jb Jc Jd Je Jf Jg Jh Ji Jj Jk Jl Jm Jn Jo Jp Jq Jr Js Jt Ju Jv Jw Jx Jy Jz Y0 Y1 Y2 Y3 Y4 Y5 Y6 Y7 Y8 Y9 Ya Yb Yc Yd Ye Yf Yg Yh Yi Yj Yk Yl Ym Yn Yo Yp Yq Yr Ys Yt Yu Yv Yw Yx Yy Yz Z0 Z1 Z2 pe st
      simp [hw1]
      exact hnext h' sv' _ _ _ _ _ _ _ _ _ _ _ _ _ _ _ _ _ _ _ _ _ _ _ _ _ _ _ _ _ _ _ _ _ _ _ _ _ _ _ _ _ _ _ _ _ _ _ _ _ _ _ _ _ _ _ _ _ _ _ _ _ _ _ _ _ _ _ _ _ _ _ _ _ _ _ _ _ _ _ _ _ _ _ _ _ _ _ _ _ _ _ _ _ _ _ _ _ _ _ _ _ _ _ _ _ _ (by rw [hcol, hh']; exact pe) st
    · -- a run length
      have htop : top + 4 ≤ σ.b.h := by
        simp only [quiet, Bool.and_eq_true, decide_eq_true_eq] at hqq; exact hqq.1
      obtain ⟨sv1, h1, e1, p1, s1⟩ := run_p he (by omega) (x := x) (top := top) ⟨h0, by rw [hw]; exact hlt⟩ ⟨ht.1, htop⟩
      obtain ⟨l1, l2, l3⟩ := le_run (P := P) he.good (x := x) (top := top) hin htop
      have hcol : σ.col P x top = ((σ.run P x top).1).rows P x (σ.run P x top).2 (min (top + 4) σ.b.h - (σ.run P x top).2).toNat := by unfold ES.col; rw [if_pos hqq]
      rw [hqq] at hqt
      by_cases hend : (σ.run P x top).2 = top + 4
      · rw [hend, show (min (top + 4) (σ.b.h : Int) - (top + 4)).toNat = 0 by omega, ES.rows] at hcol
        rw [hend] at e1
        simp [hlt, hqt, e1, hw4, hw1]
        exact hnext h1 sv1 _ _ _ _ _ _ _ _ _ _ _ _ _ _ _ _ _ _ _ _ _ _ _ _ _ _ _ _ _ _ _ _ _ _ _ _ _ _ _ _ _ _ _ _ _ _ _ _ _ _ _ _ _ _ _ _ _ _ _ _ _ _ _ _ _ _ _ _ _ _ _ _ _ _ _ _ _ _ _ _ _ _ _ _ _ _ _ _ _ _ _ _ _ _ _ _ _ _ _ _ _ _ _ _ _ _ (by rw [hcol]; exact p1) s1
      · have hend' : ((σ.run P x top).2 == top + 4) = false := by simp [hend]
        simp [hlt, hqt, e1, hw4, hend']
        refine rows_loop hw2 hh2 ⟨h0, hlt⟩ ht (min (top + 4) (hh : Int) - (σ.run P x top).2).toNat (σ.run P x top).2 h1 sv1 _ _ _ _ _ _ _ _ _ _ _ _ _ _ _ _ _ _ _ _ _ _ _ _ _ _ _ _ _ _ _ _ _ _ _ _ _ _ _ _ _ _ _ _ _ _ _ _ _ _ _ _ _ _ _ _ _ _ _ _ _ _ _ _ _ _ _ _ _ _ _ _ _ _ _ _ _ _ _ _ _ _ _ _ _ _ _ _ _ _ _ _ _ _ _ _ _ _ _ _ _ _ _ _ _ (by omega) (by omega) (by rw [l1.w]; exact hw) (by rw [l1.h]; exact hh') p1 (by have := l1.len; omega) ?_
        intro h' sv' y' K2 K3 K7 K8 K9 Ka Kb Kc Kd Ke Kf Kg Kh Ki Kj Kk Kl Ko Kp Kq Kr Ks Kt Ku Kv Kw Kx Ky Kz J0 J1 J2 J3 J4 J5 J6 J7 J8 J9 Ja Jb Jc Jd Je Jf Jg Jh Ji Jj Jk Jl Jm Jn Jo Jp Jq Jr Js Jt Ju Jv Jw Jx Jy Jz Y0 Y1 Y2 Y3 Y4 Y5 Y6 Y7 Y8 Y9 Ya Yb Yc Yd Ye Yf Yg Yh Yi Yj Yk Yl Ym Yn Yo Yp Yq Yr Ys Yt Yu Yv Yw Yx Yy Yz Z0 Z1 Z2 pe st
        simp [hw1]
        exact hnext h' sv' _ _ _ _ _ _ _ _ _ _ _ _ _ _ _ _ _ _ _ _ _ _ _ _ _ _ _ _ _ _ _ _ _ _ _ _ _ _ _ _ _ _ _ _ _ _ _ _ _ _ _ _ _ _ _ _ _ _ _ _ _ _ _ _ _ _ _ _ _ _ _ _ _ _ _ _ _ _ _ _ _ _ _ _ _ _ _ _ _ _ _ _ _ _ _ _ _ _ _ _ _ _ _ _ _ _ (by rw [hcol, hh']; exact pe) (s1.trans st)

theorem stripes_loop {w hh : Nat} (hw2 : w ≤ 64) (hh2 : hh ≤ 64) :
    ∀ (n : Nat) (top : Int) (h : Heap) (sv : Value) (σ : ES) (K2 K3 K5 K6 K7 K8 K9 Ka Kb Kc Kd Ke Kf Kg Kh Ki Kj Kk Kl Km Kn Ko Kp Kq Kr Ks Kt Ku Kv Kw Kx Ky Kz J0 J1 J2 J3 J4 J5 J6 J7 J8 J9 Ja Jb Jc Jd Je Jf Jg Jh Ji Jj Jk Jl Jm Jn Jo Jp Jq Jr Js Jt Ju Jv Jw Jx Jy Jz Y0 Y1 Y2 Y3 Y4 Y5 Y6 Y7 Y8 Y9 Ya Yb Yc Yd Ye Yf Yg Yh Yi Yj Yk Yl Ym Yn Yo Yp Yq Yr Ys Yt Yu Yv Yw Yx Yy Yz Z0 Z1 Z2 : Value), (hh : Int) ≤ top + 4 * n → top + 4 * n ≤ hh + 3 → 0 ≤ top → σ.b.w = w → σ.b.h = hh → PE h q p c pb ob P sv σ → σ.out.length + 12 * w * n + 20 < 1000000 →
      (∀ (h' : Heap) (sv' : Value) (K2 K3 K4 K5 K6 K7 K8 K9 Ka Kb Kc Kd Ke Kf Kg Kh Ki Kj Kk Kl Km Kn Ko Kp Kq Kr Ks Kt Ku Kv Kw Kx Ky Kz J0 J1 J2 J3 J4 J5 J6 J7 J8 J9 Ja Jb Jc Jd Je Jf Jg Jh Ji Jj Jk Jl Jm Jn Jo Jp Jq Jr Js Jt Ju Jv Jw Jx Jy Jz Y0 Y1 Y2 Y3 Y4 Y5 Y6 Y7 Y8 Y9 Ya Yb Yc Yd Ye Yf Yg Yh Yi Yj Yk Yl Ym Yn Yo Yp Yq Yr Ys Yt Yu Yv Yw Yx Yy Yz Z0 Z1 Z2 : Value), PE h' q p c pb ob P sv' (σ.stripes P top n) → Stp h h' c ob sv sv' →
        Ok tab R137 k #[ptr q,v1,K2,K3,K4,K5,K6,K7,K8,K9,Ka,Kb,Kc,Kd,Ke,Kf,Kg,Kh,Ki,Kj,Kk,Kl,Km,Kn,Ko,Kp,Kq,Kr,Ks,Kt,Ku,Kv,Kw,Kx,Ky,Kz,J0,J1,J2,J3,J4,J5,J6,J7,J8,J9,Ja,Jb,Jc,Jd,Je,Jf,Jg,Jh,Ji,Jj,Jk,Jl,Jm,Jn,Jo,Jp,Jq,Jr,Js,Jt,Ju,Jv,Jw,Jx,Jy,Jz,Y0,Y1,Y2,Y3,Y4,Y5,Y6,Y7,Y8,Y9,Ya,Yb,Yc,Yd,Ye,Yf,Yg,Yh,Yi,Yj,Yk,Yl,Ym,Yn,Yo,Yp,Yq,Yr,Ys,Yt,Yu,Yv,Yw,Yx,Yy,Yz,Z0,Z1,Z2] h' R) →
      Ok tab R137 (.inLoop L137_2 :: .inBlock 0 :: k) #[ptr q,v1,K2,K3,.int .i64 top,K5,K6,K7,K8,K9,Ka,Kb,Kc,Kd,Ke,Kf,Kg,Kh,Ki,Kj,Kk,Kl,Km,Kn,Ko,Kp,Kq,Kr,Ks,Kt,Ku,Kv,Kw,Kx,Ky,Kz,J0,J1,J2,J3,J4,J5,J6,J7,J8,J9,Ja,Jb,Jc,Jd,Je,Jf,Jg,Jh,Ji,Jj,Jk,Jl,Jm,Jn,Jo,Jp,Jq,Jr,Js,Jt,Ju,Jv,Jw,Jx,Jy,Jz,Y0,Y1,Y2,Y3,Y4,Y5,Y6,Y7,Y8,Y9,Ya,Yb,Yc,Yd,Ye,Yf,Yg,Yh,Yi,Yj,Yk,Yl,Ym,Yn,Yo,Yp,Yq,Yr,Ys,Yt,Yu,Yv,Yw,Yx,Yy,Yz,Z0,Z1,Z2] h R := by
  intro n
  induction n with
  | zero =>
    intro top h sv σ K2 K3 K5 K6 K7 K8 K9 Ka Kb Kc Kd Ke Kf Kg Kh Ki Kj Kk Kl Km Kn Ko Kp Kq Kr Ks Kt Ku Kv Kw Kx Ky Kz J0 J1 J2 J3 J4 J5 J6 J7 J8 J9 Ja Jb Jc Jd Je Jf Jg Jh Ji Jj Jk Jl Jm Jn Jo Jp Jq Jr Js Jt Ju Jv Jw Jx Jy Jz Y0 Y1 Y2 Y3 Y4 Y5 Y6 Y7 Y8 Y9 Ya Yb Yc Yd Ye Yf Yg Yh Yi Yj Yk Yl Ym Yn Yo Yp Yq Yr Ys Yt Yu Yv Yw Yx Yy Yz Z0 Z1 Z2 ha hb h0 hw hh' he hl hk
    have hq := he.pr.blk
    rw [hw, hh'] at hq
    have hlt : ¬ top < (hh : Int) := by omega
    rw [ok_round, l137_2, L137_2a, L137_2b]
    simp [hq, hlt]
    exact hk h sv _ _ _ _ _ _ _ _ _ _ _ _ _ _ _ _ _ _ _ _ _ _ _ _ _ _ _ _ _ _ _ _ _ _ _ _ _ _ _ _ _ _ _ _ _ _ _ _ _ _ _ _ _ _ _ _ _ _ _ _ _ _ _ _ _ _ _ _ _ _ _ _ _ _ _ _ _ _ _ _ _ _ _ _ _ _ _ _ _ _ _ _ _ _ _ _ _ _ _ _ _ _ _ _ _ _ _ _ _ he (Stp.refl _ _ _ _)
  | succ n ih =>
    intro top h sv σ K2 K3 K5 K6 K7 K8 K9 Ka Kb Kc Kd Ke Kf Kg Kh Ki Kj Kk Kl Km Kn Ko Kp Kq Kr Ks Kt Ku Kv Kw Kx Ky Kz J0 J1 J2 J3 J4 J5 J6 J7 J8 J9 Ja Jb Jc Jd Je Jf Jg Jh Ji Jj Jk Jl Jm Jn Jo Jp Jq Jr Js Jt Ju Jv Jw Jx Jy Jz Y0 Y1 Y2 Y3 Y4 Y5 Y6 Y7 Y8 Y9 Ya Yb Yc Yd Ye Yf Yg Yh Yi Yj Yk Yl Ym Yn Yo Yp Yq Yr Ys Yt Yu Yv Yw Yx Yy Yz Z0 Z1 Z2 ha hb h0 hw hh' he hl hk
    have hq := he.pr.blk
    rw [hw, hh'] at hq
    have hlt : top < (hh : Int) := by omega
    have hw4 : IntKind.i64.wrap (top + 4) = top + 4 := wrapI (by omega) (by omega)
    have hle := le_cols (P := P) (n := w) he.good (x := 0) (top := top) (by omega) (by rw [hw]; omega) h0 (by rw [hh']; exact hlt)
    have hmul : 12 * w * (n + 1) = 12 * w * n + 12 * w := by rw [Nat.mul_add]; omega
    rw [ok_round, l137_2, L137_2a, L137_2b]
    simp [hq, hlt]
    refine cols_loop hw2 hh2 ⟨h0, hlt⟩ w 0 h sv σ _ _ _ _ _ _ _ _ _ _ _ _ _ _ _ _ _ _ _ _ _ _ _ _ _ _ _ _ _ _ _ _ _ _ _ _ _ _ _ _ _ _ _ _ _ _ _ _ _ _ _ _ _ _ _ _ _ _ _ _ _ _ _ _ _ _ _ _ _ _ _ _ _ _ _ _ _ _ _ _ _ _ _ _ _ _ _ _ _ _ _ _ _ _ _ _ _ _ _ _ _ _ _ _ _ _ (by omega) (by omega) hw hh' he (by omega) ?_
    intro h' sv' K2 K3 K5 K6 K7 K8 K9 Ka Kb Kc Kd Ke Kf Kg Kh Ki Kj Kk Kl Km Kn Ko Kp Kq Kr Ks Kt Ku Kv Kw Kx Ky Kz J0 J1 J2 J3 J4 J5 J6 J7 J8 J9 Ja Jb Jc Jd Je Jf Jg Jh Ji Jj Jk Jl Jm Jn Jo Jp Jq Jr Js Jt Ju Jv Jw Jx Jy Jz Y0 Y1 Y2 Y3 Y4 Y5 Y6 Y7 Y8 Y9 Ya Yb Yc Yd Ye Yf Yg Yh Yi Yj Yk Yl Ym Yn Yo Yp Yq Yr Ys Yt Yu Yv Yw Yx Yy Yz Z0 Z1 Z2 pe st
    simp [hw4]
    refine ih (top + 4) h' sv' _ _ _ _ _ _ _ _ _ _ _ _ _ _ _ _ _ _ _ _ _ _ _ _ _ _ _ _ _ _ _ _ _ _ _ _ _ _ _ _ _ _ _ _ _ _ _ _ _ _ _ _ _ _ _ _ _ _ _ _ _ _ _ _ _ _ _ _ _ _ _ _ _ _ _ _ _ _ _ _ _ _ _ _ _ _ _ _ _ _ _ _ _ _ _ _ _ _ _ _ _ _ _ _ _ _ _ _ _ (by omega) (by omega) (by omega) (by rw [hle.w]; exact hw) (by rw [hle.h]; exact hh') pe (by have := hle.len; omega) ?_
    intro h'' sv'' K2 K3 K4 K5 K6 K7 K8 K9 Ka Kb Kc Kd Ke Kf Kg Kh Ki Kj Kk Kl Km Kn Ko Kp Kq Kr Ks Kt Ku Kv Kw Kx Ky Kz J0 J1 J2 J3 J4 J5 J6 J7 J8 J9 Ja Jb Jc Jd Je Jf Jg Jh Ji Jj Jk Jl Jm Jn Jo Jp Jq Jr Js Jt Ju Jv Jw Jx Jy Jz Y0 Y1 Y2 Y3 Y4 Y5 Y6 Y7 Y8 Y9 Ya Yb Yc Yd Ye Yf Yg Yh Yi Yj Yk Yl Ym Yn Yo Yp Yq Yr Ys Yt Yu Yv Yw Yx Yy Yz Z0 Z1 Z2 pe2 st2
    exact hk h'' sv'' _ _ _ _ _ _ _ _ _ _ _ _ _ _ _ _ _ _ _ _ _ _ _ _ _ _ _ _ _ _ _ _ _ _ _ _ _ _ _ _ _ _ _ _ _ _ _ _ _ _ _ _ _ _ _ _ _ _ _ _ _ _ _ _ _ _ _ _ _ _ _ _ _ _ _ _ _ _ _ _ _ _ _ _ _ _ _ _ _ _ _ _ _ _ _ _ _ _ _ _ _ _ _ _ _ _ _ _ _ (by rw [ES.stripes, hw]; exact pe2) (st.trans st2)

theorem clear_loop {s : Value} {pts : List (Int × Int)} :
    ∀ (m i : Nat) (h : Heap) (sv : Value) (σ : ES) (K2 K3 K4 K5 K6 K7 K8 K9 Ka Kb Kc Kd Ke Kf Kg Kh Ki Kj Kk Kl Km Kn Ko Kp Kq Kr Ks Kt Ku Kv Kw Kx Ky Kz J0 J1 J2 J3 J4 J5 J6 J7 J8 J9 Ja Jb Jc Jd Je Jf Jg Jh Ji Jj Jk Jl Jm Jn Jo Jp Jq Jr Js Jt Ju Jv Jw Jx Jy Jz Y0 Y1 Y2 Y3 Y4 Y5 Y6 Y7 Y8 Yc Yd Ye Yf Yg Yh Yi Yj Yk Yl Ym Yn Yo Yp Yq Yr Ys Yt Yu Yv Yw Yx Yy Yz Z0 Z1 Z2 : Value), m = pts.length - i → i ≤ pts.length → PE h q p c pb ob P sv σ → Far h s pts c ob sv → AllIn σ.b pts → pts.length < 1000000 →
      (∀ (h' : Heap) (sv' : Value) (K2 K3 K4 K5 K6 K7 K8 K9 Ka Kb Kc Kd Ke Kf Kg Kh Ki Kj Kk Kl Km Kn Ko Kp Kq Kr Ks Kt Ku Kv Kw Kx Ky Kz J0 J1 J2 J3 J4 J5 J6 J7 J8 J9 Ja Jb Jc Jd Je Jf Jg Jh Ji Jj Jk Jl Jm Jn Jo Jp Jq Jr Js Jt Ju Jv Jw Jx Jy Jz Y0 Y1 Y2 Y3 Y4 Y5 Y6 Y7 Y8 Y9 Ya Yb Yc Yd Ye Yf Yg Yh Yi Yj Yk Yl Ym Yn Yo Yp Yq Yr Ys Yt Yu Yv Yw Yx Yy Yz Z0 Z1 Z2 : Value), PE h' q p c pb ob P sv' (σ.clear (pts.drop i)) → Stp h h' c ob sv sv' → Ok tab R137 k #[ptr q,v1,K2,K3,K4,K5,K6,K7,K8,K9,Ka,Kb,Kc,Kd,Ke,Kf,Kg,Kh,Ki,Kj,Kk,Kl,Km,Kn,Ko,Kp,Kq,Kr,Ks,Kt,Ku,Kv,Kw,Kx,Ky,Kz,J0,J1,J2,J3,J4,J5,J6,J7,J8,J9,Ja,Jb,Jc,Jd,Je,Jf,Jg,Jh,Ji,Jj,Jk,Jl,Jm,Jn,Jo,Jp,Jq,Jr,Js,Jt,Ju,Jv,Jw,Jx,Jy,Jz,Y0,Y1,Y2,Y3,Y4,Y5,Y6,Y7,Y8,Y9,Ya,Yb,Yc,Yd,Ye,Yf,Yg,Yh,Yi,Yj,Yk,Yl,Ym,Yn,Yo,Yp,Yq,Yr,Ys,Yt,Yu,Yv,Yw,Yx,Yy,Yz,Z0,Z1,Z2] h' R) →
      Ok tab R137 (.inLoop L137_3 :: .inBlock 6 :: k) #[ptr q,v1,K2,K3,K4,K5,K6,K7,K8,K9,Ka,Kb,Kc,Kd,Ke,Kf,Kg,Kh,Ki,Kj,Kk,Kl,Km,Kn,Ko,Kp,Kq,Kr,Ks,Kt,Ku,Kv,Kw,Kx,Ky,Kz,J0,J1,J2,J3,J4,J5,J6,J7,J8,J9,Ja,Jb,Jc,Jd,Je,Jf,Jg,Jh,Ji,Jj,Jk,Jl,Jm,Jn,Jo,Jp,Jq,Jr,Js,Jt,Ju,Jv,Jw,Jx,Jy,Jz,Y0,Y1,Y2,Y3,Y4,Y5,Y6,Y7,Y8,s,.int .i64 pts.length,.int .i64 i,Yc,Yd,Ye,Yf,Yg,Yh,Yi,Yj,Yk,Yl,Ym,Yn,Yo,Yp,Yq,Yr,Ys,Yt,Yu,Yv,Yw,Yx,Yy,Yz,Z0,Z1,Z2] h R := by
  intro m
  induction m with
  | zero =>
    intro i h sv σ K2 K3 K4 K5 K6 K7 K8 K9 Ka Kb Kc Kd Ke Kf Kg Kh Ki Kj Kk Kl Km Kn Ko Kp Kq Kr Ks Kt Ku Kv Kw Kx Ky Kz J0 J1 J2 J3 J4 J5 J6 J7 J8 J9 Ja Jb Jc Jd Je Jf Jg Jh Ji Jj Jk Jl Jm Jn Jo Jp Jq Jr Js Jt Ju Jv Jw Jx Jy Jz Y0 Y1 Y2 Y3 Y4 Y5 Y6 Y7 Y8 Yc Yd Ye Yf Yg Yh Yi Yj Yk Yl Ym Yn Yo Yp Yq Yr Ys Yt Yu Yv Yw Yx Yy Yz Z0 Z1 Z2 hm hi he hf ha hpl hk
    have hlt : ¬ ((i : Int) < pts.length) := by omega
    rw [ok_round, l137_3, L137_3a, L137_3b]
    simp [hlt]
    refine hk h sv _ _ _ _ _ _ _ _ _ _ _ _ _ _ _ _ _ _ _ _ _ _ _ _ _ _ _ _ _ _ _ _ _ _ _ _ _ _ _ _ _ _ _ _ _ _ _ _ _ _ _ _ _ _ _ _ _ _ _ _ _ _ _ _ _ _ _ _ _ _ _ _ _ _ _ _ _ _ _ _ _ _ _ _ _ _ _ _ _ _ _ _ _ _ _ _ _ _ _ _ _ _ _ _ _ _ _ _ _ ?_ (Stp.refl _ _ _ _)
    rw [List.drop_of_length_le (by omega)]; exact he
  | succ m ih =>
    intro i h sv σ K2 K3 K4 K5 K6 K7 K8 K9 Ka Kb Kc Kd Ke Kf Kg Kh Ki Kj Kk Kl Km Kn Ko Kp Kq Kr Ks Kt Ku Kv Kw Kx Ky Kz J0 J1 J2 J3 J4 J5 J6 J7 J8 J9 Ja Jb Jc Jd Je Jf Jg Jh Ji Jj Jk Jl Jm Jn Jo Jp Jq Jr Js Jt Ju Jv Jw Jx Jy Jz Y0 Y1 Y2 Y3 Y4 Y5 Y6 Y7 Y8 Yc Yd Ye Yf Yg Yh Yi Yj Yk Yl Ym Yn Yo Yp Yq Yr Ys Yt Yu Yv Yw Yx Yy Yz Z0 Z1 Z2 hm hi he hf ha hpl hk
    have hlt : ((i : Int) < pts.length) := by omega
    have hw : IntKind.i64.wrap ((i : Int) + 1) = (i : Int) + 1 := wrapN (n := i + 1) (by omega)
    have hil : i < pts.length := by omega
    obtain ⟨id, off, blk, hs, hb, ht, hle⟩ := hf.get hil
    have hin := ha _ (List.getElem_mem hil)
    have hsp : σ.clear (pts.drop i) = (σ.map pts[i].1 pts[i].2 (touch false)).clear (pts.drop (i + 1)) := by
      rw [List.drop_eq_getElem_cons hil]; rfl
    generalize hx : pts[i].1 = x at *
    generalize hy : pts[i].2 = y at *
    have he2 := he.push (some ⟨false, [.int .i64 x, .int .i64 y]⟩)
    have hs2 := Stp.push h (some ⟨false, [.int .i64 x, .int .i64 y]⟩) c ob sv
    have hf2 := hf.stp hs2
    have hK : ∀ y : Blk, blk? (h ++ [some y]) h.length = some y := fun y => blk?_push_eq
    have hq2 := he2.pr.blk
    have htc := fun R => touch_c (R := R) (v := false) he2.pr.cb (x := x) (y := y) hin
    obtain ⟨p4, s4⟩ := he2.map (x := x) (y := y) hin (kv_touch false)
    have hmm : (fun z : Cell => ({ z with t := false } : Cell)) = touch false := rfl
    rw [hmm] at htc
    have hls : (h ++ [some (⟨false, [.int .i64 x, .int .i64 y]⟩ : Blk)]).set c (some ⟨false, encC (σ.b.upd x y (touch false)).cs⟩) = h.set c (some ⟨false, encC (σ.b.upd x y (touch false)).cs⟩) ++ [some ⟨false, [.int .i64 x, .int .i64 y]⟩] :=
      List.set_append_left _ _ he.lts.2.2.1
    rw [ok_round, l137_3, L137_3a, L137_3b]
    rw [hls] at htc p4 s4
    simp [-List.cons_append, -List.append_assoc, hlt, hw, hs, hb, ht, hle, hK, hq2, htc]
    rw [← hs]
    have st4 := hs2.trans s4
    refine ih (i + 1) _ sv _ _ _ _ _ _ _ _ _ _ _ _ _ _ _ _ _ _ _ _ _ _ _ _ _ _ _ _ _ _ _ _ _ _ _ _ _ _ _ _ _ _ _ _ _ _ _ _ _ _ _ _ _ _ _ _ _ _ _ _ _ _ _ _ _ _ _ _ _ _ _ _ _ _ _ _ _ _ _ _ _ _ _ _ _ _ _ _ _ _ _ _ _ _ _ _ _ _ _ _ _ _ _ _ _ _ _ (by omega) (by omega) p4 (hf.stp st4) (ha.le (le_map he.good hin (kv_touch false))) hpl ?_
    intro h' sv' K2 K3 K4 K5 K6 K7 K8 K9 Ka Kb Kc Kd Ke Kf Kg Kh Ki Kj Kk Kl Km Kn Ko Kp Kq Kr Ks Kt Ku Kv Kw Kx Ky Kz J0 J1 J2 J3 J4 J5 J6 J7 J8 J9 Ja Jb Jc Jd Je Jf Jg Jh Ji Jj Jk Jl Jm Jn Jo Jp Jq Jr Js Jt Ju Jv Jw Jx Jy Jz Y0 Y1 Y2 Y3 Y4 Y5 Y6 Y7 Y8 Y9 Ya Yb Yc Yd Ye Yf Yg Yh Yi Yj Yk Yl Ym Yn Yo Yp Yq Yr Ys Yt Yu Yv Yw Yx Yy Yz Z0 Z1 Z2 pe st
    exact hk h' sv' _ _ _ _ _ _ _ _ _ _ _ _ _ _ _ _ _ _ _ _ _ _ _ _ _ _ _ _ _ _ _ _ _ _ _ _ _ _ _ _ _ _ _ _ _ _ _ _ _ _ _ _ _ _ _ _ _ _ _ _ _ _ _ _ _ _ _ _ _ _ _ _ _ _ _ _ _ _ _ _ _ _ _ _ _ _ _ _ _ _ _ _ _ _ _ _ _ _ _ _ _ _ _ _ _ _ _ _ _ (by rw [hsp]; exact pe) (st4.trans st)
end
section
variable {h : Heap} {q p c pb ob : Nat} {P : PP} {sv : Value} {σ : ES} {k : List RItem} {R : Value → Heap → Prop} {v1 : Value}

theorem check_loop {z : Nat} {bits : List Nat} (hbl : bits.length ≤ 4) :
    ∀ (m i : Nat) (h : Heap) (sv : Value) (σ : ES) (K1 K2 K3 K4 K5 K6 K7 K8 K9 Ka Kb Kc Kd Ke Kf Kg Kh Ki Kj Kk Kl Km Kn Ko Kp Kq Kr Ks Kt Ku Kv Kw Kx Ky Kz J0 J1 J2 J3 J4 J5 J6 J7 J8 J9 Ja Jb Jc Jd Je Jf Jg Jh Ji Jj Jk Jl Jm Jn Jo Jp Jq Jr Js Jt Ju Jv Jw Jx Jy Jz Y0 Y1 Y2 Y3 Y4 Y5 Y6 Y7 Y8 Y9 Ya Yb Yc Yd Ye Yf Yg Yh Yi Yj Yk Yl Ym Yn Yo Yp Yt Yu Yv Yw Yx Yy Yz Z0 Z1 Z2 : Value), m = bits.length - i → i ≤ bits.length → PE h q p c pb ob P sv σ →
      blk? h z = some ⟨false, bits.map fun (n : Nat) => .int .i64 n⟩ → (z ≠ c ∧ z ≠ ob ∧ sid sv ≠ some z) → σ.out.length + 10 < 1000000 + i →
      (∀ (h' : Heap) (sv' : Value) (K1 K2 K3 K4 K5 K6 K7 K8 K9 Ka Kb Kc Kd Ke Kf Kg Kh Ki Kj Kk Kl Km Kn Ko Kp Kq Kr Ks Kt Ku Kv Kw Kx Ky Kz J0 J1 J2 J3 J4 J5 J6 J7 J8 J9 Ja Jb Jc Jd Je Jf Jg Jh Ji Jj Jk Jl Jm Jn Jo Jp Jq Jr Js Jt Ju Jv Jw Jx Jy Jz Y0 Y1 Y2 Y3 Y4 Y5 Y6 Y7 Y8 Y9 Ya Yb Yc Yd Ye Yf Yg Yh Yi Yj Yk Yl Ym Yn Yo Yp Yq Yr Ys Yt Yu Yv Yw Yx Yy Yz Z0 Z1 Z2 : Value), PE h' q p c pb ob P sv' (σ.emits P (bits.drop i)) → Stp h h' c ob sv sv' → Ok tab R137 k #[ptr q,K1,K2,K3,K4,K5,K6,K7,K8,K9,Ka,Kb,Kc,Kd,Ke,Kf,Kg,Kh,Ki,Kj,Kk,Kl,Km,Kn,Ko,Kp,Kq,Kr,Ks,Kt,Ku,Kv,Kw,Kx,Ky,Kz,J0,J1,J2,J3,J4,J5,J6,J7,J8,J9,Ja,Jb,Jc,Jd,Je,Jf,Jg,Jh,Ji,Jj,Jk,Jl,Jm,Jn,Jo,Jp,Jq,Jr,Js,Jt,Ju,Jv,Jw,Jx,Jy,Jz,Y0,Y1,Y2,Y3,Y4,Y5,Y6,Y7,Y8,Y9,Ya,Yb,Yc,Yd,Ye,Yf,Yg,Yh,Yi,Yj,Yk,Yl,Ym,Yn,Yo,Yp,Yq,Yr,Ys,Yt,Yu,Yv,Yw,Yx,Yy,Yz,Z0,Z1,Z2] h' R) →
      Ok tab R137 (.inLoop L137_4 :: .inBlock 8 :: k) #[ptr q,K1,K2,K3,K4,K5,K6,K7,K8,K9,Ka,Kb,Kc,Kd,Ke,Kf,Kg,Kh,Ki,Kj,Kk,Kl,Km,Kn,Ko,Kp,Kq,Kr,Ks,Kt,Ku,Kv,Kw,Kx,Ky,Kz,J0,J1,J2,J3,J4,J5,J6,J7,J8,J9,Ja,Jb,Jc,Jd,Je,Jf,Jg,Jh,Ji,Jj,Jk,Jl,Jm,Jn,Jo,Jp,Jq,Jr,Js,Jt,Ju,Jv,Jw,Jx,Jy,Jz,Y0,Y1,Y2,Y3,Y4,Y5,Y6,Y7,Y8,Y9,Ya,Yb,Yc,Yd,Ye,Yf,Yg,Yh,Yi,Yj,Yk,Yl,Ym,Yn,Yo,Yp,.slice (some ⟨z, 0, none⟩) bits.length 1,.int .i64 bits.length,.int .i64 i,Yt,Yu,Yv,Yw,Yx,Yy,Yz,Z0,Z1,Z2] h R := by
  intro m
  induction m with
  | zero =>
    intro i h sv σ K1 K2 K3 K4 K5 K6 K7 K8 K9 Ka Kb Kc Kd Ke Kf Kg Kh Ki Kj Kk Kl Km Kn Ko Kp Kq Kr Ks Kt Ku Kv Kw Kx Ky Kz J0 J1 J2 J3 J4 J5 J6 J7 J8 J9 Ja Jb Jc Jd Je Jf Jg Jh Ji Jj Jk Jl Jm Jn Jo Jp Jq Jr Js Jt Ju Jv Jw Jx Jy Jz Y0 Y1 Y2 Y3 Y4 Y5 Y6 Y7 Y8 Y9 Ya Yb Yc Yd Ye Yf Yg Yh Yi Yj Yk Yl Ym Yn Yo Yp Yt Yu Yv Yw Yx Yy Yz Z0 Z1 Z2 hm hi he hz hn hl hk
    have hlt : ¬ ((i : Int) < bits.length) := by omega
    rw [ok_round, l137_4, L137_4a, L137_4b]
    simp [hlt]
    refine hk h sv _ _ _ _ _ _ _ _ _ _ _ _ _ _ _ _ _ _ _ _ _ _ _ _ _ _ _ _ _ _ _ _ _ _ _ _ _ _ _ _ _ _ _ _ _ _ _ _ _ _ _ _ _ _ _ _ _ _ _ _ _ _ _ _ _ _ _ _ _ _ _ _ _ _ _ _ _ _ _ _ _ _ _ _ _ _ _ _ _ _ _ _ _ _ _ _ _ _ _ _ _ _ _ _ _ _ _ _ _ _ ?_ (Stp.refl _ _ _ _)
    rw [List.drop_of_length_le (by omega)]; exact he
  | succ m ih =>
    intro i h sv σ K1 K2 K3 K4 K5 K6 K7 K8 K9 Ka Kb Kc Kd Ke Kf Kg Kh Ki Kj Kk Kl Km Kn Ko Kp Kq Kr Ks Kt Ku Kv Kw Kx Ky Kz J0 J1 J2 J3 J4 J5 J6 J7 J8 J9 Ja Jb Jc Jd Je Jf Jg Jh Ji Jj Jk Jl Jm Jn Jo Jp Jq Jr Js Jt Ju Jv Jw Jx Jy Jz Y0 Y1 Y2 Y3 Y4 Y5 Y6 Y7 Y8 Y9 Ya Yb Yc Yd Ye Yf Yg Yh Yi Yj Yk Yl Ym Yn Yo Yp Yt Yu Yv Yw Yx Yy Yz Z0 Z1 Z2 hm hi he hz hn hl hk
    have hlt : ((i : Int) < bits.length) := by omega
    have hw : IntKind.i64.wrap ((i : Int) + 1) = (i : Int) + 1 := wrapN (n := i + 1) (by omega)
    have hil : i < bits.length := by omega
    have hq := he.pr.blk
    have hsp : σ.emits P (bits.drop i) = (σ.emit P 18 bits[i]).emits P (bits.drop (i + 1)) := by
      rw [List.drop_eq_getElem_cons hil]; rfl
    obtain ⟨sv1, h1, e1, p1, s1⟩ := emit_c he (by omega) 18 bits[i]
    have hz1 : blk? h1 z = some ⟨false, bits.map fun (n : Nat) => .int .i64 n⟩ := by rw [s1.same z (blk?_lt hz) hn.1 hn.2.1 hn.2.2]; exact hz
    have hn1 : z ≠ c ∧ z ≠ ob ∧ sid sv1 ≠ some z := ⟨hn.1, hn.2.1, fun e => by
      rcases s1.fresh z e with h | h
      · exact hn.2.2 h
      · have := blk?_lt hz; omega⟩
    rw [ok_round, l137_4, L137_4a, L137_4b]
    simp [hlt, hw, hz, hil, hq, e1]
    refine ih (i + 1) h1 sv1 _ _ _ _ _ _ _ _ _ _ _ _ _ _ _ _ _ _ _ _ _ _ _ _ _ _ _ _ _ _ _ _ _ _ _ _ _ _ _ _ _ _ _ _ _ _ _ _ _ _ _ _ _ _ _ _ _ _ _ _ _ _ _ _ _ _ _ _ _ _ _ _ _ _ _ _ _ _ _ _ _ _ _ _ _ _ _ _ _ _ _ _ _ _ _ _ _ _ _ _ _ _ _ _ _ _ _ _ (by omega) (by omega) p1 hz1 hn1 (by simp [ES.emit]; omega) ?_
    intro h' sv' K1 K2 K3 K4 K5 K6 K7 K8 K9 Ka Kb Kc Kd Ke Kf Kg Kh Ki Kj Kk Kl Km Kn Ko Kp Kq Kr Ks Kt Ku Kv Kw Kx Ky Kz J0 J1 J2 J3 J4 J5 J6 J7 J8 J9 Ja Jb Jc Jd Je Jf Jg Jh Ji Jj Jk Jl Jm Jn Jo Jp Jq Jr Js Jt Ju Jv Jw Jx Jy Jz Y0 Y1 Y2 Y3 Y4 Y5 Y6 Y7 Y8 Y9 Ya Yb Yc Yd Ye Yf Yg Yh Yi Yj Yk Yl Ym Yn Yo Yp Yq Yr Ys Yt Yu Yv Yw Yx Yy Yz Z0 Z1 Z2 pe st
    exact hk h' sv' _ _ _ _ _ _ _ _ _ _ _ _ _ _ _ _ _ _ _ _ _ _ _ _ _ _ _ _ _ _ _ _ _ _ _ _ _ _ _ _ _ _ _ _ _ _ _ _ _ _ _ _ _ _ _ _ _ _ _ _ _ _ _ _ _ _ _ _ _ _ _ _ _ _ _ _ _ _ _ _ _ _ _ _ _ _ _ _ _ _ _ _ _ _ _ _ _ _ _ _ _ _ _ _ _ _ _ _ _ _ (by rw [hsp]; exact pe) (s1.trans st)

theorem cleanup_p (he : PE h q p c pb ob P sv σ) (hl : σ.out.length ≤ 1000) (on : Bool) :
    ∃ sv' h', (∀ R, Ret tab 137 [ptr q, .bool on] h R = R (.tuple #[]) h') ∧ PE h' q p c pb ob P sv' (σ.clean P on) ∧ Stp h h' c ob sv sv' := by
  have key : Ret tab 137 [ptr q, .bool on] h fun v h' => v = .tuple #[] ∧ ∃ sv', PE h' q p c pb ob P sv' (σ.clean P on) ∧ Stp h h' c ob sv sv' := by
    have hsl := scan_len he.pr.cb.ok.w2 he.pr.cb.ok.h2
    have hw2 := he.pr.cb.ok.w2
    have hh2 := he.pr.cb.ok.h2
    have hst : 12 * σ.b.w * stripesOf σ.b.h ≤ 12 * 64 * 16 := Nat.mul_le_mul (by omega) (by unfold stripesOf; omega)
    have g1 : (σ.b.h : Int) ≤ 0 + 4 * (stripesOf σ.b.h : Nat) := by unfold stripesOf; omega
    have g2 : 0 + 4 * ((stripesOf σ.b.h : Nat) : Int) ≤ σ.b.h + 3 := by unfold stripesOf; omega
    have hls := le_stripes (P := P) (n := stripesOf σ.b.h) he.good (top := 0) (by omega) g2
    rw [enter137, show B137 = .seq (nthC 0 B137) (.seq (nthC 1 B137) (tlC 2 B137)) from rfl]
    generalize hT : tlC 2 B137 = tl
    simp only [nthC, tlC, fstC, B137]
    simp
    refine stripes_loop hw2 hh2 (stripesOf σ.b.h) 0 h sv σ _ _ _ _ _ _ _ _ _ _ _ _ _ _ _ _ _ _ _ _ _ _ _ _ _ _ _ _ _ _ _ _ _ _ _ _ _ _ _ _ _ _ _ _ _ _ _ _ _ _ _ _ _ _ _ _ _ _ _ _ _ _ _ _ _ _ _ _ _ _ _ _ _ _ _ _ _ _ _ _ _ _ _ _ _ _ _ _ _ _ _ _ _ _ _ _ _ _ _ _ _ _ _ _ _ _ _ _ g1 g2 (by omega) rfl rfl he (by omega) ?_
    intro h1 sv1 K2 K3 K4 K5 K6 K7 K8 K9 Ka Kb Kc Kd Ke Kf Kg Kh Ki Kj Kk Kl Km Kn Ko Kp Kq Kr Ks Kt Ku Kv Kw Kx Ky Kz J0 J1 J2 J3 J4 J5 J6 J7 J8 J9 Ja Jb Jc Jd Je Jf Jg Jh Ji Jj Jk Jl Jm Jn Jo Jp Jq Jr Js Jt Ju Jv Jw Jx Jy Jz Y0 Y1 Y2 Y3 Y4 Y5 Y6 Y7 Y8 Y9 Ya Yb Yc Yd Ye Yf Yg Yh Yi Yj Yk Yl Ym Yn Yo Yp Yq Yr Ys Yt Yu Yv Yw Yx Yy Yz Z0 Z1 Z2 p1 s1
    obtain ⟨s, h2, e2, p2, s2, f2⟩ := p1.scan
    obtain ⟨a, cc, hs⟩ := f2.sl.shape
    have hq1 := p1.pr.blk
    rw [hls.w, hls.h] at e2 f2 hs hq1
    simp [hq1, e2, hs]
    rw [← hs]
    have hall : AllIn (σ.stripes P 0 (stripesOf σ.b.h)).b (scan σ.b.w σ.b.h) := by have := scanIn (σ.stripes P 0 (stripesOf σ.b.h)).b; rwa [hls.w, hls.h] at this
    refine clear_loop _ 0 h2 sv1 _ _ _ _ _ _ _ _ _ _ _ _ _ _ _ _ _ _ _ _ _ _ _ _ _ _ _ _ _ _ _ _ _ _ _ _ _ _ _ _ _ _ _ _ _ _ _ _ _ _ _ _ _ _ _ _ _ _ _ _ _ _ _ _ _ _ _ _ _ _ _ _ _ _ _ _ _ _ _ _ _ _ _ _ _ _ _ _ _ _ _ _ _ _ _ _ _ _ _ _ _ _ _ _ _ _ _ rfl (by omega) p2 f2 hall (by omega) ?_
    intro h3 sv3 K2 K3 K4 K5 K6 K7 K8 K9 Ka Kb Kc Kd Ke Kf Kg Kh Ki Kj Kk Kl Km Kn Ko Kp Kq Kr Ks Kt Ku Kv Kw Kx Ky Kz J0 J1 J2 J3 J4 J5 J6 J7 J8 J9 Ja Jb Jc Jd Je Jf Jg Jh Ji Jj Jk Jl Jm Jn Jo Jp Jq Jr Js Jt Ju Jv Jw Jx Jy Jz Y0 Y1 Y2 Y3 Y4 Y5 Y6 Y7 Y8 Y9 Ya Yb Yc Yd Ye Yf Yg Yh Yi Yj Yk Yl Ym Yn Yo Yp Yq Yr Ys Yt Yu Yv Yw Yx Yy Yz Z0 Z1 Z2 p3 s3
    rw [List.drop_zero] at p3
    have hcl := le_clear hls.good hall
    rw [← hT]
    simp only [tlC, B137]
    cases on
    · simp [fin137]
      exact ⟨sv3, p3, (s1.trans s2).trans s3⟩
    · have p4 := p3.push (some ⟨false, [.int .i64 1, .int .i64 0, .int .i64 1, .int .i64 0]⟩)
      have s4 := Stp.push h3 (some ⟨false, [.int .i64 1, .int .i64 0, .int .i64 1, .int .i64 0]⟩) c ob sv3
      obtain ⟨l1, l2, l3, l4, l5⟩ := p3.lts
      simp [repL]
      refine check_loop (z := h3.length) (bits := [1, 0, 1, 0]) (by simp) 4 0 _ sv3 _ _ _ _ _ _ _ _ _ _ _ _ _ _ _ _ _ _ _ _ _ _ _ _ _ _ _ _ _ _ _ _ _ _ _ _ _ _ _ _ _ _ _ _ _ _ _ _ _ _ _ _ _ _ _ _ _ _ _ _ _ _ _ _ _ _ _ _ _ _ _ _ _ _ _ _ _ _ _ _ _ _ _ _ _ _ _ _ _ _ _ _ _ _ _ _ _ _ _ _ _ _ _ _ _ _ _ _ (by simp) (by simp) p4 ?_ ⟨by omega, by omega, fun e => by have := p3.own.lt e; omega⟩ (by have := hls.len; have := hcl.len; omega) ?_
      · simpa using blk?_push_eq (h := h3) (x := some (⟨false, [.int .i64 1, .int .i64 0, .int .i64 1, .int .i64 0]⟩ : Blk))
      · intro h5 sv5 K1 K2 K3 K4 K5 K6 K7 K8 K9 Ka Kb Kc Kd Ke Kf Kg Kh Ki Kj Kk Kl Km Kn Ko Kp Kq Kr Ks Kt Ku Kv Kw Kx Ky Kz J0 J1 J2 J3 J4 J5 J6 J7 J8 J9 Ja Jb Jc Jd Je Jf Jg Jh Ji Jj Jk Jl Jm Jn Jo Jp Jq Jr Js Jt Ju Jv Jw Jx Jy Jz Y0 Y1 Y2 Y3 Y4 Y5 Y6 Y7 Y8 Y9 Ya Yb Yc Yd Ye Yf Yg Yh Yi Yj Yk Yl Ym Yn Yo Yp Yq Yr Ys Yt Yu Yv Yw Yx Yy Yz Z0 Z1 Z2 p5 s5
        simp [fin137]
        exact ⟨sv5, by rw [clean_eq P σ true rfl]; exact p5, (((s1.trans s2).trans s3).trans s4).trans s5⟩
  obtain ⟨v, h', e, rfl, sv', pe, st⟩ := ret_ex key
  exact ⟨sv', h', e, pe, st⟩
end
section
variable {h : Heap} {R : Value → Heap → Prop}
theorem pass_c {n : Nat} (hn : n < 100000) : Ret tab 74 [.int .i64 n] h R = R (.tuple #[.int .i64 (planeOf n), .int .i64 (kindOf n)]) h := by
  have h1 : ¬ ((n : Int) < 0) := by omega
  rw [enter74, B74]
  by_cases h0 : n = 0
  · subst h0; simp [fin74, planeOf, kindOf]
  · have hn0 : ((n : Int) == 0) = false := by simp [h0]
    have e1 : IntKind.i64.wrap ((n : Int) - 1) = ((n - 1 : Nat) : Int) := by rw [wrapI (by omega) (by omega)]; omega
    have e2 : ((n - 1 : Nat) : Int).tdiv 3 = (((n - 1) / 3 : Nat) : Int) := rfl
    have e3 : ((n - 1 : Nat) : Int).tmod 3 = (((n - 1) % 3 : Nat) : Int) := rfl
    have e4 : IntKind.i64.wrap ((((n - 1) / 3 : Nat) : Int)) = (((n - 1) / 3 : Nat) : Int) := wrapN (by omega)
    have e5 : IntKind.i64.wrap ((((n - 1) / 3 : Nat) : Int) + 1) = (((n - 1) / 3 + 1 : Nat) : Int) := wrapN (n := (n - 1) / 3 + 1) (by omega)
    have hp : planeOf n = (n - 1) / 3 + 1 := by unfold planeOf; rw [if_neg h0]
    have hk : kindOf n = (n - 1) % 3 := by unfold kindOf; rw [if_neg h0]
    rw [hp, hk]
    generalize hm : n - 1 = m at *
    generalize hd : m / 3 = d at *
    generalize hr : m % 3 = r at *
    simp [-Int.natCast_add, h1, hn0, e1, e2, e3, e4, e5, fin74]

theorem raw_c {n : Nat} (hn : n < 100000) (m : MD) : Ret tab 75 [.int .i64 n, m.val] h R = R (.bool (rawOf m n)) h := by
  have hK : ∀ y : Blk, blk? (frz h ++ [some y]) h.length = some y := fun y => by
    have := blk?_push_eq (h := frz h) (x := some y)
    rwa [len_frz] at this
  have hp := fun h R => pass_c (h := h) (R := R) hn
  have hk : kindOf n = 0 ∨ kindOf n = 1 ∨ kindOf n = 2 := by unfold kindOf; split <;> omega
  have h4 : decide ((4 : Int) ≤ (planeOf n : Int)) = decide (4 ≤ planeOf n) := by congr 1; exact propext (by omega)
  rw [enter75, B75]
  obtain ⟨b1, b2, b3, b4, b5⟩ := m
  rcases hk with hk | hk | hk
  · cases b1 <;> simp [k_guard, MD.val, hp, hk, hK, h4, fin75, rawOf]
  · cases b1 <;> simp [k_guard, MD.val, hp, hk, hK, h4, fin75, rawOf]
  · simp [k_guard, MD.val, hp, hk, hK, fin75, rawOf]
end

/-- What Run leaves. -/
structure RunRes (h h' : Heap) (p c : Nat) (sv : Value) (σ : ES) : Prop where
  cb : CB h' false p c σ.b
  good : σ.b.Good
  own : OwnS h' 2 sv σ.out.length (encS σ.out)
  fresh : ∀ id, sid sv = some id → h.length ≤ id
  same : ∀ id, id < h.length → id ≠ c → blk? h' id = blk? h id
  len : h.length ≤ h'.length

section
variable {h : Heap} {p c : Nat} {b : BS}

theorem RunRes.nothing {h h' : Heap} (hb : CB h false p c b) (hr : b.Rng) (hk : ∀ id, id < h.length → blk? h' id = blk? h id) (hl : h.length ≤ h'.length) : RunRes h h' p c (.slice none 0 0) ⟨b, []⟩ :=
  ⟨⟨by rw [hk _ (blk?_lt hb.blkp)]; exact hb.blkp, by rw [hk _ (blk?_lt hb.blkc)]; exact hb.blkc, hb.ok⟩, ⟨hb.ok, hr⟩, OwnS.nil _ _, fun id h => by simp [sid] at h, fun id h1 _ => hk id h1, hl⟩

theorem runErr_lo {n planes o : Int} (h : planes < 1 ∨ 60 < planes ∨ n < 0 ∨ 3 * planes - 3 < n) : runErr n planes o = 2 := by unfold runErr; rw [if_pos h]

theorem run_c (hb : CB h false p c b) (hr : b.Rng) (n planes o : Int) (m : MD) :
    ∃ sv h', (∀ R, Ret tab 97 [ptr p, .int .i64 n, .int .i64 planes, .int .i64 o, m.val] h R = R (.tuple #[sv, .int .i64 (runErr n planes o)]) h') ∧ RunRes h h' p c sv (runOut m b n planes o) := by
  have key : Ret tab 97 [ptr p, .int .i64 n, .int .i64 planes, .int .i64 o, m.val] h fun v h' => ∃ sv, v = .tuple #[sv, .int .i64 (runErr n planes o)] ∧ RunRes h h' p c sv (runOut m b n planes o) := by
    have hb1 : CB (h ++ [some ⟨false, [.bool m.byp, .bool m.res, .bool m.rst, .bool m.cz, .bool m.sy]⟩]) false p c b := ⟨blk?_push hb.blkp, blk?_push hb.blkc, hb.ok⟩
    have hsz := fun R => size_c (R := R) hb1
    have hw0 := hb.ok.w1
    have hw0' : ((b.w : Int) == 0) = false := by simp; omega
    have hnone : runErr n planes o ≠ 0 → ∀ h', (∀ id, id < h.length → blk? h' id = blk? h id) → h.length ≤ h'.length → RunRes h h' p c (.slice none 0 0) (runOut m b n planes o) := by
      intro he h' hk hl
      unfold runOut
      rw [if_neg he]
      exact RunRes.nothing hb hr hk hl
    have hkp : ∀ x : Option Blk, ∀ id, id < h.length → blk? (h ++ [x]) id = blk? h id := fun x id hid => blk?_push_lt hid
    rw [enter97, show B97 = .seq (nthC 0 B97) (.seq (nthC 1 B97) (.seq (nthC 2 B97) (.seq (nthC 3 B97) (.seq (nthC 4 B97) (tlC 5 B97))))) from rfl]
    generalize hT : tlC 5 B97 = tl
    simp only [nthC, tlC, fstC, B97]
    obtain ⟨byp, res, rst, cz, sy⟩ := m
    simp only [MD.val] at *
    by_cases h1 : planes < 1
    · have he := runErr_lo (n := n) (o := o) (.inl h1 : planes < 1 ∨ 60 < planes ∨ n < 0 ∨ 3 * planes - 3 < n)
      simp [k_guard, k_guardU, hsz, hw0', h1, fin97]
      exact ⟨_, ⟨rfl, he.symm⟩, hnone (by rw [he]; decide) _ (hkp _) (by simp)⟩
    by_cases h2 : 60 < planes
    · have he := runErr_lo (n := n) (o := o) (.inr (.inl h2) : planes < 1 ∨ 60 < planes ∨ n < 0 ∨ 3 * planes - 3 < n)
      simp [k_guard, k_guardU, hsz, hw0', h1, h2, fin97]
      exact ⟨_, ⟨rfl, he.symm⟩, hnone (by rw [he]; decide) _ (hkp _) (by simp)⟩
    by_cases h3 : n < 0
    · have he := runErr_lo (n := n) (o := o) (.inr (.inr (.inl h3)) : planes < 1 ∨ 60 < planes ∨ n < 0 ∨ 3 * planes - 3 < n)
      simp [k_guard, k_guardU, hsz, hw0', h1, h2, h3, fin97]
      exact ⟨_, ⟨rfl, he.symm⟩, hnone (by rw [he]; decide) _ (hkp _) (by simp)⟩
    have hm1 : IntKind.i64.wrap (3 * planes) = 3 * planes := wrapI (by omega) (by omega)
    have hm2 : IntKind.i64.wrap (3 * planes - 3) = 3 * planes - 3 := wrapI (by omega) (by omega)
    by_cases h4 : 3 * planes - 3 < n
    · have he := runErr_lo (n := n) (o := o) (.inr (.inr (.inr h4)) : planes < 1 ∨ 60 < planes ∨ n < 0 ∨ 3 * planes - 3 < n)
      simp [k_guard, k_guardU, hsz, hw0', h1, h2, h3, hm1, hm2, h4, fin97]
      exact ⟨_, ⟨rfl, he.symm⟩, hnone (by rw [he]; decide) _ (hkp _) (by simp)⟩
    by_cases h5 : o < 0
    · have he : runErr n planes o = 3 := by unfold runErr; rw [if_neg (by omega), if_pos (.inl h5)]
      simp [k_guard, k_guardU, hsz, hw0', h1, h2, h3, hm1, hm2, h4, h5, fin97]
      exact ⟨_, ⟨rfl, he.symm⟩, hnone (by rw [he]; decide) _ (hkp _) (by simp)⟩
    by_cases h6 : 3 < o
    · have he : runErr n planes o = 3 := by unfold runErr; rw [if_neg (by omega), if_pos (.inr h6)]
      simp [k_guard, k_guardU, hsz, hw0', h1, h2, h3, hm1, hm2, h4, h5, h6, fin97]
      exact ⟨_, ⟨rfl, he.symm⟩, hnone (by rw [he]; decide) _ (hkp _) (by simp)⟩
    simp [k_guard, k_guardU, hsz, hw0', h1, h2, h3, hm1, hm2, h4, h5, h6, fin97]
    have he : runErr n planes o = 0 := by unfold runErr; rw [if_neg (by omega), if_neg (by omega)]
    rw [he]
    unfold runOut
    rw [if_pos he]
    obtain ⟨n, rfl⟩ := Int.eq_ofNat_of_zero_le (show 0 ≤ n by omega)
    obtain ⟨planes, rfl⟩ := Int.eq_ofNat_of_zero_le (show 0 ≤ planes by omega)
    obtain ⟨o, rfl⟩ := Int.eq_ofNat_of_zero_le (show 0 ≤ o by omega)
    have hp := fun h R => pass_c (h := h) (R := R) (n := n) (by omega)
    have hrw := fun h R => raw_c (h := h) (R := R) (n := n) (by omega) ⟨byp, res, rst, cz, sy⟩
    have hpl := planeOf_le (n := n) (planes := planes) (by omega) (by omega)
    have e1 : IntKind.i64.wrap ((planes : Int) - 1) = ((planes - 1 : Nat) : Int) := by rw [wrapI (by omega) (by omega)]; omega
    have e2 : IntKind.i64.wrap (((planes - 1 : Nat) : Int) - (planeOf n : Int)) = ((planes - 1 - planeOf n : Nat) : Int) := by rw [wrapI (by omega) (by omega)]; omega
    rw [← hT, show tlC 5 B97 = .seq (nthC 5 B97) (.seq (nthC 6 B97) (.seq (nthC 7 B97) (.seq (nthC 8 B97) (tlC 9 B97)))) from rfl]
    generalize hT2 : tlC 9 B97 = tl2
    simp only [nthC, tlC, fstC, B97]
    simp only [MD.val] at hrw
    have hlp := blk?_lt hb.blkp
    have hlc := blk?_lt hb.blkc
    have hblk := hb.blkp
    simp [hp, hrw, e1, e2, app_len, app_add, app_zero, app_succ, app_set, app_setk, book, logOf, addLog, chk1, lookL, reload]
    generalize hP : runPP ⟨byp, res, rst, cz, sy⟩ n planes o = P
    have hPs : P.s = planes - 1 - planeOf n := by rw [← hP]; rfl
    have hPo : P.o = o := by rw [← hP]; rfl
    have hPc : P.cz = cz := by rw [← hP]; rfl
    have hPr : P.rw = rawOf ⟨byp, res, rst, cz, sy⟩ n := by rw [← hP]; rfl
    have hrs : runSt ⟨byp, res, rst, cz, sy⟩ b n planes o = if kindOf n = 0 then ES.sigs P ⟨b, []⟩ (scan b.w b.h) else if kindOf n = 1 then ES.refs P ⟨b, []⟩ (scan b.w b.h) else ES.clean P ⟨b, []⟩ sy := by
      unfold runSt; rw [hP]
    rw [hrs]
    rw [← hPr, ← hPs, ← hPo, ← hPc]
    generalize hH : h ++ [some (⟨false, [.bool byp, .bool res, .bool rst, .bool P.cz, .bool sy]⟩ : Blk), some ⟨false, [.slice none 0 0]⟩,
      some ⟨false, [ptr p, .int .i64 b.w, .int .i64 b.h, .int .i64 P.s, .int .i64 P.o, .bool P.cz, .bool P.rw, .func (.func 134) #[] #[ptr (h.length + 3), ptr (h.length + 1)]]⟩, some ⟨false, [ptr (h.length + 2)]⟩] = H
    have hlow : ∀ id, id < h.length → blk? H id = blk? h id := fun id hid => by rw [← hH]; exact app_lt hid
    have hHl : H.length = h.length + 4 := by rw [← hH]; simp
    have hm0 : blk? H h.length = some ⟨false, [.bool byp, .bool res, .bool rst, .bool P.cz, .bool sy]⟩ := by rw [← hH, app_len]; rfl
    have he : PE H (h.length + 2) p c (h.length + 3) (h.length + 1) P (.slice none 0 0) ⟨b, []⟩ := by
      refine ⟨⟨by rw [← hH, app_add]; rfl, ⟨by rw [hlow _ hlp]; exact hb.blkp, by rw [hlow _ hlc]; exact hb.blkc, hb.ok⟩, by simp; omega, ⟨by rw [hPs]; omega, by rw [hPo]; omega⟩, hr⟩, by rw [← hH, app_add]; rfl, by rw [← hH, app_add]; rfl, OwnS.nil _ _, ?_, ?_, ?_⟩
      · have := hb.ne; omega
      · omega
      · simp [sid]
    have hq := he.pr.blk
    have hob := he.obk
    have hpb := he.pbk
    -- what is left
    have fin : ∀ (σ : ES) (sv' : Value) (H' : Heap), PE H' (h.length + 2) p c (h.length + 3) (h.length + 1) P sv' σ → Stp H H' c (h.length + 1) (.slice none 0 0) sv' → RunRes h H' p c sv' σ := by
      intro σ sv' H' pe st
      refine ⟨pe.pr.cb, pe.good, pe.own, fun id hid => ?_, fun id hid hc => ?_, by have := st.len; omega⟩
      · rcases st.fresh id hid with h | h
        · simp [sid] at h
        · omega
      · rw [st.same id (by omega) hc (by omega) (by simp [sid]), hlow id hid]
    rw [← hT2]
    simp only [tlC, B97]
    have hk : kindOf n = 0 ∨ kindOf n = 1 ∨ kindOf n = 2 := by unfold kindOf; split <;> omega
    rcases hk with hk | hk | hk
    · obtain ⟨sv', H', e, pe, st⟩ := significance_p he (by simp)
      have hob' := pe.obk
      simp [hk, hpb, e, hob', fin97]
      exact fin _ _ _ pe st
    · obtain ⟨sv', H', e, pe, st⟩ := refinement_p he (by simp)
      have hob' := pe.obk
      simp [hk, hpb, e, hob', fin97]
      exact fin _ _ _ pe st
    · obtain ⟨sv', H', e, pe, st⟩ := cleanup_p he (by simp) sy
      have hob' := pe.obk
      simp [hk, hpb, hm0, e, hob', fin97]
      exact fin _ _ _ pe st
  obtain ⟨v, h', e, sv, rfl, rs⟩ := ret_ex key
  exact ⟨sv, h', e, rs⟩
end
end Go.Proofs.Ytjpjohchdfoeaaa
