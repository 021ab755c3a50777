/-
  The arithmetic coder, plain: digits to the base 256 (the highest first), and the interval.
  The end of a codeword, plain: what the program chooses, and what the reference finds.
  The arithmetic decoder, plain: it follows the encoder.
  The program's arithmetic encoder, followed: its models, and one that is carried.
  The program's arithmetic encoder, followed: a bit is encoded.
  Bits in bytes: plain facts, no program in sight.
  The program's arithmetic encoder, followed: a bit is encoded; sizes; the models set back.
  The program's arithmetic encoder, followed: a new one, its size, its models set back, the end of a codeword.
  The program's arithmetic encoder, followed: the end of a codeword.
  The program's writer of raw bits, followed.
  The state of a code block, plain: coefficients with their flags, and what the neighbours say.
  The methods of a code block, the program's and the reference's: what they read and write.
  The methods of a code block, on: neighbours, signs, writers; the reference's.
  The methods of the reference's code block.
  The contexts: the program's and the reference's are the same, at every input that occurs.
  The passes of the encoder, plain.
  The encoder's passes: what they read.
  The encoder's passes: symbols and signs.
  What receives the symbols of a segment: the arithmetic encoder, or a writer of raw bits behind an interface.
  The reference's arithmetic encoder, followed: a bit is encoded.
-/
import Derived.Test.YtjpjohchdfoeaaaGreatSimZ
import Derived.Test.YtjpjohchdfoeaaaGreatTab
namespace Go.Proofs.YtjpjohchdfoeaaaGreat
open Go Go.Sim
set_option linter.unusedSimpArgs false
set_option linter.unusedVariables false
def val : List Nat → Nat
 | [] => 0
 | d :: ds => d * 256 ^ ds.length + val ds
def Dig (ds : List Nat) : Prop := ∀ d ∈ ds,d < 256
def addD : List Nat → Nat → Nat × List Nat
 | [],b => (b,[])
 | d :: ds,b => (((addD ds b).1 + d) / 256,((addD ds b).1 + d) % 256 :: (addD ds b).2)
theorem val_append : ∀ (a b : List Nat),val (a ++ b) = val a * 256 ^ b.length + val b
 | [],b => by simp [val]
 | d :: a,b => by
  rw [List.cons_append,val,val,val_append a b,List.length_append,Nat.pow_add,Nat.add_mul,Nat.mul_assoc,Nat.add_assoc]
theorem val_lt : ∀ {ds : List Nat},Dig ds → val ds < 256 ^ ds.length
 | [],_ => by simp [val]
 | d :: ds,h => by
  have h1 : d < 256 := h d (by simp)
  have h2 := val_lt (ds := ds) (fun x hx => h x (by simp [hx]))
  rw [val,List.length_cons,Nat.pow_succ]
  have := Nat.mul_le_mul_right (256 ^ ds.length) (show d ≤ 255 by omega)
  omega
theorem addD_len : ∀ (ds : List Nat) (b : Nat),(addD ds b).2.length = ds.length
 | [],b => rfl
 | d :: ds,b => by simp [addD,addD_len ds b]
theorem addD_dig : ∀ (ds : List Nat) (b : Nat),Dig (addD ds b).2
 | [],b => by intro d hd; simp [addD] at hd
 | d :: ds,b => by
  intro x hx
  simp only [addD,List.mem_cons] at hx
  rcases hx with rfl | hx
  ·exact Nat.mod_lt _ (by decide)
  ·exact addD_dig ds b x hx
theorem addD_val : ∀ (ds : List Nat) (b : Nat),val ds + b = (addD ds b).1 * 256 ^ ds.length + val (addD ds b).2
 | [],b => by simp [addD,val]
 | d :: ds,b => by
  have ih := addD_val ds b
  simp only [addD,val,addD_len,List.length_cons,Nat.pow_succ]
  generalize (addD ds b).1 = c at *
  generalize val (addD ds b).2 = v at *
  generalize 256 ^ ds.length = q at *
  have e := Nat.div_add_mod (c + d) 256
  generalize (c + d) / 256 = x at *
  generalize (c + d) % 256 = y at *
  have h1 : (c + d) * q = (256 * x + y) * q := by rw [e]
  rw [Nat.add_mul,Nat.add_mul] at h1
  rw [show x * (q * 256) = 256 * x * q by rw [Nat.mul_comm q,← Nat.mul_assoc,Nat.mul_comm x]]
  omega
theorem addD_append : ∀ (a c : List Nat) (b : Nat),addD (a ++ c) b = ((addD a (addD c b).1).1,(addD a (addD c b).1).2 ++ (addD c b).2)
 | [],c,b => by simp [addD]
 | d :: a,c,b => by
  rw [List.cons_append,addD,addD_append a c b]; simp [addD]
theorem addD_zero : ∀ {ds : List Nat},Dig ds → addD ds 0 = (0,ds)
 | [],_ => rfl
 | d :: ds,h => by
  have h1 : d < 256 := h d (by simp)
  rw [addD,addD_zero (fun x hx => h x (by simp [hx]))]
  simp only [Nat.zero_add]
  rw [Nat.div_eq_of_lt h1,Nat.mod_eq_of_lt h1]
theorem val_inj : ∀ {a b : List Nat},Dig a → Dig b → a.length = b.length → val a = val b → a = b
 | [],[],_,_,_,_ => rfl
 | [],_ :: _,_,_,hl,_ => by simp at hl
 | _ :: _,[],_,_,hl,_ => by simp at hl
 | x :: a,y :: b,ha,hb,hl,hv => by
  have hl' : a.length = b.length := by simpa using hl
  have h1 := val_lt (ds := a) (fun z hz => ha z (by simp [hz]))
  have h2 := val_lt (ds := b) (fun z hz => hb z (by simp [hz]))
  simp only [val] at hv
  rw [← hl'] at hv h2
  have hq : 0 < 256 ^ a.length := Nat.pow_pos (by decide)
  generalize 256 ^ a.length = q at *
  have hxy : x = y := by
   rcases Nat.lt_trichotomy x y with h | h | h
   ·have := Nat.mul_le_mul_right q (show x + 1 ≤ y by omega)
    rw [Nat.add_mul] at this; omega
   ·exact h
   ·have := Nat.mul_le_mul_right q (show y + 1 ≤ x by omega)
    rw [Nat.add_mul] at this; omega
  subst hxy
  rw [val_inj (fun z hz => ha z (by simp [hz])) (fun z hz => hb z (by simp [hz])) hl' (by omega)]
def dig4 (n : Nat) : List Nat := [n / 16777216,n / 65536 % 256,n / 256 % 256,n % 256]
theorem dig4_len (n : Nat) : (dig4 n).length = 4 := rfl
theorem dig4_val (n : Nat) : val (dig4 n) = n := by
 simp only [dig4,val,List.length_cons,List.length_nil]
 omega
theorem dig4_dig {n : Nat} (h : n < 4294967296) : Dig (dig4 n) := by
 intro d hd
 simp only [dig4,List.mem_cons,List.not_mem_nil,or_false] at hd
 omega
theorem addD_dig4 {n b : Nat} (h : n < 4294967296) (hb : b < 4294967296) : addD (dig4 n) b = if n + b < 4294967296 then (0,dig4 (n + b)) else (1,dig4 (n + b - 4294967296)) := by
 have hv := addD_val (dig4 n) b
 have hd := addD_dig (dig4 n) b
 have hl := addD_len (dig4 n) b
 have hlt := val_lt hd
 rw [hl,dig4_len] at hlt
 rw [dig4_val,dig4_len] at hv
 rw [dig4_len] at hl
 generalize hX : addD (dig4 n) b = X at *
 obtain ⟨c,r⟩ := X
 simp only at *
 split
 ·rename_i hs
  have hc : c = 0 := by omega
  subst hc
  have : r = dig4 (n + b) := val_inj hd (dig4_dig hs) (by rw [hl,dig4_len]) (by rw [dig4_val]; omega)
  rw [this]
 ·rename_i hs
  have hc : c = 1 := by omega
  subst hc
  have : r = dig4 (n + b - 4294967296) := val_inj hd (dig4_dig (by omega)) (by rw [hl,dig4_len]) (by rw [dig4_val]; omega)
  rw [this]
theorem addD_low {out : List Nat} {low b : Nat} (ho : Dig out) (h : low < 4294967296) (hb : b < 4294967296) :
  (addD (out ++ dig4 low) b).2 = if low + b < 4294967296 then out ++ dig4 (low + b) else (addD out 1).2 ++ dig4 (low + b - 4294967296) := by
 rw [addD_append,addD_dig4 h hb]
 split
 ·simp only [addD_zero ho]
 ·rfl
def adaptP (p : Nat) (bit : Nat) : Nat := if bit = 0 then p + (4096 - p) / 32 else p - p / 32
def POk (p : Nat) : Prop := 31 ≤ p ∧ p ≤ 4065
theorem adaptP_ok {p bit : Nat} (h : POk p) : POk (adaptP p bit) := by
 unfold POk adaptP at *
 split <;> omega
def PsOk (ps : List Nat) : Prop := ∀ p ∈ ps,POk p
structure AE where
 p : List Nat
 ds : List Nat
 size : Nat
 begun : Bool
def AE.base (n : Nat) : List Nat := List.replicate n 2048
def AE.begin (p : List Nat) : AE := ⟨p,[0,0,0,0],4294967295,false⟩
structure AE.Ok (a : AE) : Prop where
 ps : PsOk a.p
 dig : Dig a.ds
 len : 4 ≤ a.ds.length
 s1 : 16777216 ≤ a.size
 s2 : a.size < 4294967296
 top : val a.ds + a.size ≤ 4294967295 * 256 ^ (a.ds.length - 4)
def AE.split (a : AE) (c : Nat) : Nat := a.size / 4096 * a.p.getD c 0
def AE.norm (a : AE) : AE := if a.size < 16777216 then { a with ds := a.ds ++ [0],size := a.size * 256 } else a
def AE.put (a : AE) (c : Nat) (bit : Nat) : AE :=
 let b := a.split c
 let a1 : AE := if bit = 0 then { a with size := b } else { a with ds := (addD a.ds b).2,size := a.size - b }
 { a1.norm with p := a.p.set c (adaptP (a.p.getD c 0) bit),begun := true }
theorem base_ok (n : Nat) : PsOk (AE.base n) := by
 intro p hp
 simp only [AE.base,List.mem_replicate] at hp
 rw [hp.2]; unfold POk; omega
theorem begin_ok {p : List Nat} (h : PsOk p) : (AE.begin p).Ok :=
 ⟨h,by intro d hd; simp [AE.begin] at hd; omega,by simp [AE.begin],by simp [AE.begin],by simp [AE.begin],by simp [AE.begin,val]⟩
theorem PsOk.getD {ps : List Nat} (h : PsOk ps) {c : Nat} (hc : c < ps.length) : POk (ps.getD c 0) := by
 rw [List.getD_eq_getElem?_getD,List.getElem?_eq_getElem hc]
 exact h _ (List.getElem_mem _)
theorem AE.split_rng {a : AE} (h : a.Ok) {c : Nat} (hc : c < a.p.length) : 65536 ≤ a.split c ∧ a.split c + 65536 ≤ a.size := by
 obtain ⟨p1,p2⟩ := h.ps.getD hc
 have h1 := h.s1
 have h2 := h.s2
 unfold AE.split
 generalize a.p.getD c 0 = p at *
 have hq : 4096 ≤ a.size / 4096 := by omega
 have hm := Nat.mul_le_mul hq p1
 have hu := Nat.mul_le_mul_left (a.size / 4096) p2
 have hd := Nat.div_mul_le_self a.size 4096
 generalize a.size / 4096 = q at *
 omega
theorem pow_sub4 {n : Nat} (h : 4 ≤ n) : 256 ^ n = 4294967296 * 256 ^ (n - 4) := by
 obtain ⟨k,rfl⟩ : ∃ k,n = 4 + k := ⟨n - 4,by omega⟩
 rw [Nat.pow_add,Nat.add_sub_cancel_left]
theorem PsOk.set {ps : List Nat} (h : PsOk ps) {c v : Nat} (hv : POk v) : PsOk (ps.set c v) := by
 intro p hp
 rcases List.mem_or_eq_of_mem_set hp with h1 | h1
 ·exact h p h1
 ·rw [h1]; exact hv
theorem AE.add_val {a : AE} (h : a.Ok) {b : Nat} (hb : b < a.size) : val (addD a.ds b).2 = val a.ds + b := by
 have hv := addD_val a.ds b
 have ht := h.top
 have hp := pow_sub4 h.len
 have hq : 0 < 256 ^ (a.ds.length - 4) := Nat.pow_pos (by decide)
 have hc : (addD a.ds b).1 = 0 := by
  apply Classical.byContradiction
  intro hc
  have := Nat.mul_le_mul_right (256 ^ a.ds.length) (show 1 ≤ (addD a.ds b).1 by omega)
  rw [hp] at this hv
  generalize 256 ^ (a.ds.length - 4) = q at *
  omega
 rw [hc] at hv; omega
theorem AE.put_ok {a : AE} (h : a.Ok) {c bit : Nat} (hc : c < a.p.length) : (a.put c bit).Ok := by
 obtain ⟨r1,r2⟩ := AE.split_rng h hc
 have hps : PsOk (a.p.set c (adaptP (a.p.getD c 0) bit)) := h.ps.set (adaptP_ok (h.ps.getD hc))
 have key : ∀ (ds : List Nat) (size : Nat),Dig ds → ds.length = a.ds.length → 65536 ≤ size → size < 4294967296 → val ds + size ≤ 4294967295 * 256 ^ (a.ds.length - 4) →
   ({ (AE.norm { a with ds := ds,size := size }) with p := a.p.set c (adaptP (a.p.getD c 0) bit),begun := true } : AE).Ok := by
  intro ds size hd hl h1 h2 h3
  have h4 := h.len
  unfold AE.norm
  by_cases hs : size < 16777216
  ·simp only [hs,if_true]
   refine ⟨hps,?_,by simp; omega,by simp only; omega,by simp only; omega,?_⟩
   ·intro d hd'
    simp only [List.mem_append,List.mem_singleton] at hd'
    rcases hd' with h' | h'
    ·exact hd d h'
    ·omega
   ·simp only [val_append,List.length_append,List.length_cons,List.length_nil,val]
    rw [hl,show a.ds.length + 1 - 4 = (a.ds.length - 4) + 1 by omega,show 256 ^ (a.ds.length - 4 + 1) = 256 ^ (a.ds.length - 4) * 256 from Nat.pow_succ _ _]
    clear r1 r2
    generalize 256 ^ (a.ds.length - 4) = q at h3 ⊢
    omega
  ·simp only [hs,if_false]
   exact ⟨hps,hd,by simp only; omega,by simp only; omega,by simp only; omega,by simp only; rw [hl]; exact h3⟩
 have ht := h.top
 have h2 := h.s2
 unfold AE.put
 simp only
 by_cases hb : bit = 0
 ·simp only [hb,if_true]
  subst hb
  exact key a.ds _ h.dig rfl r1 (by omega) (by omega)
 ·simp only [hb,if_false]
  exact key _ _ (addD_dig _ _) (addD_len _ _) (by omega) (by omega) (by rw [AE.add_val h (by omega)]; omega)
def trim : List Nat → List Nat
 | [] => []
 | d :: ds => match trim ds with
  | [] => if d = 0 then [] else [d]
  | x :: xs => d :: x :: xs
def chooseP (low size : Nat) : Nat × Bool :=
 if low = 0 then (0,false) else if low + size > 4294967296 then (0,true) else
 if (low + 16777215) / 16777216 * 16777216 < low + size then ((low + 16777215) / 16777216 * 16777216,false) else
 if (low + 65535) / 65536 * 65536 < low + size then ((low + 65535) / 65536 * 65536,false) else
 if (low + 255) / 256 * 256 < low + size then ((low + 255) / 256 * 256,false) else (low,false)
def termP (out : List Nat) (low size : Nat) : List Nat :=
 (if (chooseP low size).2 = true then (addD out 1).2 else out) ++ dig4 (chooseP low size).1
def upR (ds : List Nat) (k size : Nat) : Option (List Nat) :=
 if val (ds.drop (ds.length - k)) = 0 then some (ds.take (ds.length - k) ++ List.replicate k 0)
 else if size ≤ 256 ^ k - val (ds.drop (ds.length - k)) then none
 else if (addD (ds.take (ds.length - k)) 1).1 = 0 then some ((addD (ds.take (ds.length - k)) 1).2 ++ List.replicate k 0) else none
def firstUp (ds : List Nat) (size : Nat) : Nat → List Nat
 | 0 => match upR ds 0 size with | some v => trim v | none => []
 | k + 1 => match upR ds (k + 1) size with | some v => trim v | none => firstUp ds size k
def IsCeil (M N X : Nat) : Prop := (∃ q,X = q * M) ∧ N ≤ X ∧ X < N + M
theorem IsCeil.uniq {M N X Y : Nat} (h : IsCeil M N X) (k : IsCeil M N Y) : X = Y := by
 obtain ⟨⟨q,rfl⟩,h1,h2⟩ := h
 obtain ⟨⟨r,rfl⟩,k1,k2⟩ := k
 rcases Nat.lt_trichotomy q r with h | h | h
 ·have := Nat.mul_le_mul_right M (show q + 1 ≤ r by omega)
  rw [Nat.add_mul] at this; omega
 ·rw [h]
 ·have := Nat.mul_le_mul_right M (show r + 1 ≤ q by omega)
  rw [Nat.add_mul] at this; omega
theorem isCeil_of {N M : Nat} (hM : 0 < M) : IsCeil M N ((N + (M - 1)) / M * M) := by
 have h := Nat.div_add_mod (N + (M - 1)) M
 have h2 := Nat.mod_lt (N + (M - 1)) hM
 rw [Nat.mul_comm M] at h
 exact ⟨⟨_,rfl⟩,by omega,by omega⟩
theorem val_rep : ∀ k : Nat,val (List.replicate k 0) = 0
 | 0 => rfl
 | k + 1 => by rw [List.replicate_succ,val,val_rep k]; simp
theorem dig_rep (k : Nat) : Dig (List.replicate k 0) := by
 intro d hd
 simp only [List.mem_replicate] at hd
 omega
theorem Dig.app {a b : List Nat} (ha : Dig a) (hb : Dig b) : Dig (a ++ b) := by
 intro d hd
 rcases List.mem_append.1 hd with h | h
 ·exact ha d h
 ·exact hb d h
theorem Dig.take {a : List Nat} (ha : Dig a) (n : Nat) : Dig (a.take n) := fun d hd => ha d (List.mem_of_mem_take hd)
theorem Dig.drop {a : List Nat} (ha : Dig a) (n : Nat) : Dig (a.drop n) := fun d hd => ha d (List.mem_of_mem_drop hd)
theorem val_split (ds : List Nat) (i : Nat) (hi : i ≤ ds.length) : val ds = val (ds.take i) * 256 ^ (ds.length - i) + val (ds.drop i) := by
 have := val_append (ds.take i) (ds.drop i)
 rw [List.take_append_drop,List.length_drop] at this
 exact this
section
variable {ds : List Nat} {size : Nat}
theorem upR_some (hd : Dig ds) (hs : 0 < size) {k : Nat} (hk : k ≤ ds.length) {V : List Nat} (h : upR ds k size = some V) :
  Dig V ∧ V.length = ds.length ∧ IsCeil (256 ^ k) (val ds) (val V) ∧ val V < val ds + size := by
 have hsp := val_split ds (ds.length - k) (by omega)
 rw [show ds.length - (ds.length - k) = k by omega] at hsp
 have hq : 0 < 256 ^ k := Nat.pow_pos (by decide)
 have hlt := val_lt (Dig.drop hd (ds.length - k))
 rw [List.length_drop,show ds.length - (ds.length - k) = k by omega] at hlt
 unfold upR at h
 split at h
 ·rename_i h0
  injection h with h; subst h
  rw [h0] at hsp
  refine ⟨(hd.take _).app (dig_rep k),by simp; omega,?_,?_⟩
  ·rw [val_append,val_rep,List.length_replicate]
   exact ⟨⟨_,rfl⟩,by omega,by omega⟩
  ·rw [val_append,val_rep,List.length_replicate]; omega
 ·rename_i h0
  split at h
  ·cases h
  ·rename_i h1
   split at h
   ·rename_i h2
    injection h with h; subst h
    have hv := addD_val (ds.take (ds.length - k)) 1
    rw [h2] at hv
    have e : val (addD (ds.take (ds.length - k)) 1).2 = val (ds.take (ds.length - k)) + 1 := by omega
    refine ⟨(addD_dig _ _).app (dig_rep k),by simp [addD_len]; omega,?_,?_⟩
    ·rw [val_append,val_rep,List.length_replicate,e]
     refine ⟨⟨_,rfl⟩,?_,?_⟩ <;> rw [Nat.add_mul] <;> omega
    ·rw [val_append,val_rep,List.length_replicate,e,Nat.add_mul]
     omega
   ·cases h
theorem upR_none (hd : Dig ds) (ht : val ds + size ≤ 256 ^ ds.length) {k : Nat} (hk : k ≤ ds.length) {X : Nat} (hc : IsCeil (256 ^ k) (val ds) X) (hx : X < val ds + size) : upR ds k size ≠ none := by
 have hsp := val_split ds (ds.length - k) (by omega)
 rw [show ds.length - (ds.length - k) = k by omega] at hsp
 have hq : 0 < 256 ^ k := Nat.pow_pos (by decide)
 have hlt := val_lt (Dig.drop hd (ds.length - k))
 rw [List.length_drop,show ds.length - (ds.length - k) = k by omega] at hlt
 unfold upR
 split
 ·simp
 ·rename_i h0
  have hX : X = (val (ds.take (ds.length - k)) + 1) * 256 ^ k := by
   refine hc.uniq ⟨⟨_,rfl⟩,?_,?_⟩ <;> rw [Nat.add_mul] <;> omega
  rw [if_neg (by rw [Nat.add_mul] at hX; omega)]
  rw [if_pos]
  ·simp
  ·apply Classical.byContradiction
   intro hn
   have hv := addD_val (ds.take (ds.length - k)) 1
   have hl : (ds.take (ds.length - k)).length = ds.length - k := by simp
   rw [hl] at hv
   have h1 := Nat.mul_le_mul_right (256 ^ (ds.length - k)) (show 1 ≤ (addD (ds.take (ds.length - k)) 1).1 by omega)
   have h2 : 256 ^ (ds.length - k) ≤ val (ds.take (ds.length - k)) + 1 := by omega
   have h3 := Nat.mul_le_mul_right (256 ^ k) h2
   rw [← Nat.pow_add,show ds.length - k + k = ds.length by omega,← hX] at h3
   omega
theorem firstUp_eq (hd : Dig ds) (hs : 0 < size) (ht : val ds + size ≤ 256 ^ ds.length) {X : Nat} {V : List Nat} (hV : Dig V) (hl : V.length = ds.length) (hv : val V = X) (k0 : Nat) (hk0 : k0 ≤ ds.length) (h0 : IsCeil (256 ^ k0) (val ds) X) (hx : X < val ds + size) :
  ∀ k,k0 ≤ k → k ≤ ds.length → (∀ j Y,k0 < j → j ≤ k → IsCeil (256 ^ j) (val ds) Y → Y < val ds + size → Y = X) → firstUp ds size k = trim V := by
 intro k hk
 induction hk with
 | refl =>
  intro hkl _
  have hn := upR_none hd ht hk0 h0 hx
  have hf : ∀ v,upR ds k0 size = some v → v = V := by
   intro v hv'
   obtain ⟨a,b,c,d⟩ := upR_some hd hs hk0 hv'
   exact val_inj a hV (by rw [b,hl]) (by rw [hv]; exact c.uniq h0)
  cases hu : upR ds k0 size with
  | none => exact absurd hu hn
  | some v =>
   rw [← hf v hu]
   cases k0 <;> simp [firstUp,hu]
 | @step k hk ih =>
  intro hkl hall
  have hkl' : k + 1 ≤ ds.length := hkl
  simp only [firstUp]
  cases hu : upR ds (k + 1) size with
  | none =>
   simp only
   exact ih (by omega) (fun j Y h1 h2 => hall j Y h1 (Nat.le_succ_of_le h2))
  | some v =>
   simp only
   obtain ⟨a,b,c,d⟩ := upR_some hd hs hkl' hu
   have hk' : k0 ≤ k := hk
   have e := hall (k + 1) (val v) (by omega) (Nat.le_refl _) c d
   rw [val_inj a hV (by rw [b,hl]) (by rw [hv,e])]
theorem IsCeil.le {a b N X Y : Nat} (h : a ≤ b) (hx : IsCeil (256 ^ a) N X) (hy : IsCeil (256 ^ b) N Y) : X ≤ Y := by
 obtain ⟨⟨q,rfl⟩,h1,h2⟩ := hx
 obtain ⟨⟨r,rfl⟩,k1,k2⟩ := hy
 obtain ⟨c,rfl⟩ : ∃ c,b = c + a := ⟨b - a,by omega⟩
 rw [Nat.pow_add,← Nat.mul_assoc] at k1 ⊢
 generalize r * 256 ^ c = s at *
 generalize 256 ^ a = M at *
 rcases Nat.lt_or_ge s q with h3 | h3
 ·have := Nat.mul_le_mul_right M (show s + 1 ≤ q by omega)
  rw [Nat.add_mul] at this; omega
 ·exact Nat.mul_le_mul_right M h3
theorem term_eq {out : List Nat} {low : Nat} (ho : Dig out) (hlow : low < 4294967296) (hs : 0 < size) (hs2 : size < 4294967296) (ht : val (out ++ dig4 low) + size ≤ 4294967295 * 256 ^ out.length) :
  firstUp (out ++ dig4 low) size (out.length + 4) = trim (termP out low size) := by
 have p4 : (256 : Nat) ^ 4 = 4294967296 := by decide
 have hd : Dig (out ++ dig4 low) := ho.app (dig4_dig hlow)
 have hlen : (out ++ dig4 low).length = out.length + 4 := by simp [dig4]
 have hval : val (out ++ dig4 low) = val out * 4294967296 + low := by rw [val_append,dig4_val,dig4_len]
 have ht' : val (out ++ dig4 low) + size ≤ 256 ^ (out ++ dig4 low).length := by
  rw [hlen,Nat.pow_add]
  have : 0 < 256 ^ out.length := Nat.pow_pos (by decide)
  generalize 256 ^ out.length = q at *
  omega
 have multiple : ∀ {c : Nat},c ≤ 4 → ∃ q,val out * 4294967296 = q * 256 ^ c := by
  intro c hc
  refine ⟨val out * 256 ^ (4 - c),?_⟩
  rw [Nat.mul_assoc,← Nat.pow_add,show 4 - c + c = 4 by omega]
 have shift : ∀ {c v : Nat},c ≤ 4 → IsCeil (256 ^ c) low v → IsCeil (256 ^ c) (val (out ++ dig4 low)) (val out * 4294967296 + v) := by
  intro c v hc ⟨⟨q,hq⟩,h1,h2⟩
  obtain ⟨r,hr⟩ := multiple hc
  rw [hval]
  exact ⟨⟨r + q,by rw [Nat.add_mul,← hr,← hq]⟩,by omega,by omega⟩
 rw [← hlen]
 unfold termP chooseP
 by_cases h0 : low = 0
 ·subst h0
  rw [if_pos rfl]
  simp only [Bool.false_eq_true,if_false]
  refine firstUp_eq hd hs ht' (V := out ++ dig4 0) hd rfl rfl 4 (by omega) ⟨⟨val out,by rw [hval,p4,Nat.add_zero]⟩,Nat.le_refl _,by rw [p4]; omega⟩ (by omega) _ (by omega) (Nat.le_refl _) ?_
  intro j Y h1 h2 hc hY
  obtain ⟨⟨q,rfl⟩,c1,c2⟩ := hc
  obtain ⟨c,rfl⟩ : ∃ c,j = c + 4 := ⟨j - 4,by omega⟩
  rw [Nat.pow_add,← Nat.mul_assoc,p4] at c1 hY
  rw [Nat.pow_add,← Nat.mul_assoc,p4]
  rw [hval] at c1 hY ⊢
  clear c2
  generalize q * 256 ^ c = s at c1 hY ⊢
  omega
 rw [if_neg h0]
 by_cases h1 : low + size > 4294967296
 ·rw [if_pos h1]
  simp only [if_true]
  have hv := addD_val out 1
  have hc0 : (addD out 1).1 = 0 := by
   apply Classical.byContradiction
   intro hn
   have h3 := Nat.mul_le_mul_right (256 ^ out.length) (show 1 ≤ (addD out 1).1 by omega)
   rw [hval] at ht
   have : 0 < 256 ^ out.length := Nat.pow_pos (by decide)
   generalize 256 ^ out.length = q at *
   omega
  have hX : val ((addD out 1).2 ++ dig4 0) = val out * 4294967296 + 4294967296 := by
   rw [val_append,dig4_val,dig4_len]
   rw [hc0] at hv
   omega
  refine firstUp_eq hd hs ht' (V := (addD out 1).2 ++ dig4 0) ((addD_dig _ _).app (dig4_dig (by omega))) (by simp [addD_len,dig4]) hX 4 (by omega) (shift (Nat.le_refl _) ⟨⟨1,by rw [p4]⟩,by omega,by rw [p4]; omega⟩) (by omega) _ (by omega) (Nat.le_refl _) ?_
  ·intro j Y h3 h2 hc hY
   obtain ⟨⟨q,rfl⟩,c1,c2⟩ := hc
   obtain ⟨c,rfl⟩ : ∃ c,j = c + 4 := ⟨j - 4,by omega⟩
   rw [Nat.pow_add,← Nat.mul_assoc,p4] at c1 hY
   rw [Nat.pow_add,← Nat.mul_assoc,p4]
   rw [hval] at c1 hY
   clear c2
   generalize q * 256 ^ c = s at c1 hY ⊢
   omega
 rw [if_neg h1]
 have no4 : ∀ j Y,4 ≤ j → IsCeil (256 ^ j) (val (out ++ dig4 low)) Y → ¬ Y < val (out ++ dig4 low) + size := by
  intro j Y h3 hc hY
  have := (shift (Nat.le_refl 4) (v := 4294967296) ⟨⟨1,by rw [p4]⟩,by omega,by rw [p4]; omega⟩).le h3 hc
  omega
 have fin : ∀ (c v : Nat),c ≤ 3 → v < 4294967296 → IsCeil (256 ^ c) low v → v < low + size → (∀ j v',c < j → j ≤ 3 → IsCeil (256 ^ j) low v' → ¬ v' < low + size) → firstUp (out ++ dig4 low) size (out ++ dig4 low).length = trim (out ++ dig4 v) := by
  intro c v hc hv h2 h3 h4
  refine firstUp_eq hd hs ht' (V := out ++ dig4 v) (ho.app (dig4_dig hv)) (by simp [dig4]) (by rw [val_append,dig4_val,dig4_len]) c (by omega) (shift (by omega) h2) (by omega) _ (by omega) (Nat.le_refl _) ?_
  intro j Y h5 h6 h7 h8
  exfalso
  by_cases hj : 4 ≤ j
  ·exact no4 j Y hj h7 h8
  ·have hq : 0 < 256 ^ j := Nat.pow_pos (by decide)
   have hcj := isCeil_of (N := low) hq
   have := (shift (by omega) hcj).uniq h7
   exact h4 j _ h5 (by omega) hcj (by omega)
 have c3 : IsCeil (256 ^ 3) low ((low + 16777215) / 16777216 * 16777216) := isCeil_of (M := 256 ^ 3) (by decide)
 have c2 : IsCeil (256 ^ 2) low ((low + 65535) / 65536 * 65536) := isCeil_of (M := 256 ^ 2) (by decide)
 have c1 : IsCeil (256 ^ 1) low ((low + 255) / 256 * 256) := isCeil_of (M := 256 ^ 1) (by decide)
 have c0 : IsCeil (256 ^ 0) low low := ⟨⟨low,by simp⟩,by omega,by simp⟩
 by_cases h3 : (low + 16777215) / 16777216 * 16777216 < low + size
 ·rw [if_pos h3]
  simp only [Bool.false_eq_true,if_false]
  exact fin 3 _ (by omega) (by omega) c3 h3 (fun j v' a b => by omega)
 rw [if_neg h3]
 have n3 : ∀ v',IsCeil (256 ^ 3) low v' → ¬ v' < low + size := fun v' h => by rw [h.uniq c3]; exact h3
 by_cases h4 : (low + 65535) / 65536 * 65536 < low + size
 ·rw [if_pos h4]
  simp only [Bool.false_eq_true,if_false]
  refine fin 2 _ (by omega) (by omega) c2 h4 (fun j v' a b => ?_)
  obtain rfl : j = 3 := by omega
  exact n3 v'
 rw [if_neg h4]
 have n2 : ∀ v',IsCeil (256 ^ 2) low v' → ¬ v' < low + size := fun v' h => by rw [h.uniq c2]; exact h4
 by_cases h5 : (low + 255) / 256 * 256 < low + size
 ·rw [if_pos h5]
  simp only [Bool.false_eq_true,if_false]
  refine fin 1 _ (by omega) (by omega) c1 h5 (fun j v' a b => ?_)
  obtain rfl | rfl : j = 2 ∨ j = 3 := by omega
  ·exact n2 v'
  ·exact n3 v'
 rw [if_neg h5]
 have n1 : ∀ v',IsCeil (256 ^ 1) low v' → ¬ v' < low + size := fun v' h => by rw [h.uniq c1]; exact h5
 simp only [Bool.false_eq_true,if_false]
 refine fin 0 _ (by omega) hlow c0 (by omega) (fun j v' a b => ?_)
 obtain rfl | rfl | rfl : j = 1 ∨ j = 2 ∨ j = 3 := by omega
 ·exact n1 v'
 ·exact n2 v'
 ·exact n3 v'
end
structure AD where
 p : List Nat
 rest : List Nat
 value : Nat
 size : Nat
def pad (D : List Nat) : Nat → List Nat
 | 0 => []
 | n + 1 => D.headD 0 :: pad D.tail n
def AD.start (p D : List Nat) : AD := ⟨p,D.drop 4,min (val (pad D 4)) 4294967294,4294967295⟩
def AD.split (d : AD) (c : Nat) : Nat := d.size / 4096 * d.p.getD c 0
def AD.bit (d : AD) (c : Nat) : Nat := if d.value < d.split c then 0 else 1
def AD.norm (d : AD) : AD := if d.size < 16777216 then { d with rest := d.rest.tail,value := d.value * 256 + d.rest.headD 0,size := d.size * 256 } else d
def AD.next (d : AD) (c : Nat) : AD :=
 let d1 : AD := if d.value < d.split c then { d with size := d.split c } else { d with value := d.value - d.split c,size := d.size - d.split c }
 { d1.norm with p := d.p.set c (adaptP (d.p.getD c 0) (d.bit c)) }
structure AD.Ok (d : AD) : Prop where
 ps : PsOk d.p
 dig : Dig d.rest
 v : d.value < d.size
 s1 : 16777216 ≤ d.size
 s2 : d.size < 4294967296
theorem pad_take : ∀ (D : List Nat) {n m : Nat},n ≤ m → pad (D.take m) n = pad D n
 | _,0,_,_ => rfl
 | [],n + 1,m,_ => by simp
 | x :: D,n + 1,m + 1,h => by
  simp only [List.take_succ_cons,pad,List.headD_cons,List.tail_cons]
  rw [pad_take D (by omega)]
theorem trim_len : ∀ (V : List Nat),(trim V).length ≤ V.length
 | [] => Nat.le_refl _
 | d :: V => by
  have ih := trim_len V
  rw [trim]
  split
  ·split <;> simp
  ·rename_i x xs h
   rw [h] at ih
   simp only [List.length_cons] at ih ⊢
   omega
theorem trim_dig : ∀ {V : List Nat},Dig V → Dig (trim V)
 | [],h => h
 | d :: V,h => by
  have ih := trim_dig (V := V) (fun x hx => h x (by simp [hx]))
  rw [trim]
  split
  ·split
   ·intro x hx; simp at hx
   ·intro x hx; simp at hx; subst hx; exact h _ (by simp)
  ·rename_i x xs ht
   rw [ht] at ih
   intro y hy
   rcases List.mem_cons.1 hy with rfl | hy
   ·exact h _ (by simp)
   ·exact ih y hy
def Within (a : AE) (D : List Nat) : Prop := val a.ds ≤ val (pad D a.ds.length) ∧ val (pad D a.ds.length) < val a.ds + a.size
theorem Within.take {a : AE} {D : List Nat} (h : Within a D) {m : Nat} (hm : a.ds.length ≤ m) : Within a (D.take m) := by
 unfold Within; rw [pad_take D hm]; exact h
theorem AD.split_rng {d : AD} (h : d.Ok) {c : Nat} (hc : c < d.p.length) : 65536 ≤ d.split c ∧ d.split c + 65536 ≤ d.size := by
 obtain ⟨p1,p2⟩ := h.ps.getD hc
 have h1 := h.s1
 have h2 := h.s2
 unfold AD.split
 generalize d.p.getD c 0 = p at *
 have hq : 4096 ≤ d.size / 4096 := by omega
 have hm := Nat.mul_le_mul hq p1
 have hu := Nat.mul_le_mul_left (d.size / 4096) p2
 have hd := Nat.div_mul_le_self d.size 4096
 generalize d.size / 4096 = q at *
 omega
theorem Dig.tail {r : List Nat} (h : Dig r) : Dig r.tail := fun x hx => h x (List.mem_of_mem_tail hx)
def nI (xs : List Nat) : List Value := xs.map fun (x : Nat) => .int .i64 x
def nU (xs : List Nat) : List Value := xs.map fun (x : Nat) => .int .u8 x
theorem nI_len (xs : List Nat) : (nI xs).length = xs.length := by simp [nI]
theorem nU_len (xs : List Nat) : (nU xs).length = xs.length := by simp [nU]
theorem nI_get {xs : List Nat} {i : Nat} (h : i < xs.length) : (nI xs)[i]? = some (.int .i64 (xs.getD i 0 : Nat)) := by simp [nI,h]
theorem nU_get {xs : List Nat} {i : Nat} (h : i < xs.length) : (nU xs)[i]? = some (.int .u8 (xs.getD i 0 : Nat)) := by simp [nU,h]
theorem nI_set {xs : List Nat} {i v : Nat} : (nI xs).set i (.int .i64 (v : Nat)) = nI (xs.set i v) := by simp [nI,List.map_set]
theorem nU_set {xs : List Nat} {i v : Nat} : (nU xs).set i (.int .u8 (v : Nat)) = nU (xs.set i v) := by simp [nU,List.map_set]
theorem get_of {α : Type} {C : List α} {i : Nat} {v : α} (h : C[i]? = some v) : ∀ hh : i < C.length,C[i]'hh = v := fun hh => by
 rw [List.getElem?_eq_getElem hh] at h; exact Option.some.inj h
structure EP (h : Heap) (e pb : Nat) (o : Value) (p out : List Nat) (low size : Nat) (begun : Bool) : Prop where
 blk : blk? h e = some ⟨false,[.slice (some ⟨pb,0,none⟩) p.length 1,o,.int .i64 (low : Nat),.int .i64 (size : Nat),.bool begun]⟩
 pblk : blk? h pb = some ⟨false,nI p⟩
 own : OwnS h 1 o out.length (nU out)
 ne1 : e ≠ pb
 ne2 : sid o ≠ some e
 ne3 : sid o ≠ some pb
structure EF (h h' : Heap) (e pb : Nat) (o o' : Value) : Prop where
 len : h.length ≤ h'.length
 same : ∀ id,id < h.length → id ≠ e → id ≠ pb → sid o ≠ some id → blk? h' id = blk? h id
 fresh : ∀ id,sid o' = some id → sid o = some id ∨ (h.length ≤ id ∧ id < h'.length)
theorem EF.refl (h : Heap) (e pb : Nat) (o : Value) : EF h h e pb o o := ⟨Nat.le_refl _,fun _ _ _ _ _ => rfl,fun _ h => .inl h⟩
theorem EF.trans {h1 h2 h3 : Heap} {e pb : Nat} {o1 o2 o3 : Value} (a : EF h1 h2 e pb o1 o2) (b : EF h2 h3 e pb o2 o3) : EF h1 h3 e pb o1 o3 := by
 refine ⟨Nat.le_trans a.len b.len,fun id h0 h1' h2' h3' => ?_,fun id hid => ?_⟩
 ·rw [b.same id (by have := a.len; omega) h1' h2' (fun hx => ?_),a.same id h0 h1' h2' h3']
  rcases a.fresh id hx with h | h
  ·exact h3' h
  ·omega
 ·rcases b.fresh id hid with h | h
  ·rcases a.fresh id h with h' | h'
   ·exact .inl h'
   ·have := b.len; exact .inr ⟨h'.1,by omega⟩
  ·have := a.len; exact .inr ⟨by omega,h.2⟩
section
variable {h : Heap} {R : Value → Heap → Prop} {e pb : Nat} {o : Value} {p out : List Nat} {low size : Nat} {begun : Bool}
theorem evalid_c (I : EP h e pb o p out low size begun) (hp : 0 < p.length) : Ret tab 83 [ptr e] h R = R (.bool true) h := by
 have h1 := I.blk
 rw [enter83,B83]
 simp [k_guard,h1,hp,fin83]
theorem has_c {q : Nat} {cs : List Value} {n c : Nat} {z : Nat} (h1 : blk? h q = some ⟨false,.slice (some ⟨z,0,none⟩) n 1 :: cs⟩) : Ret tab 234 [ptr q,.int .i64 (c : Nat)] h R = R (.bool (decide (c < n))) h := by
 rw [enter234,B234]
 by_cases hc : c < n
 ·simp [k_guard,h1,hc,fin234]
 ·simp [k_guard,h1,hc,fin234]
theorem split_c {q : Nat} {cs : List Value} {c : Nat} {z size : Nat} (h1 : blk? h q = some ⟨false,.slice (some ⟨z,0,none⟩) p.length 1 :: cs⟩) (h2 : blk? h z = some ⟨false,nI p⟩) (hc : c < p.length) (hpc : p.getD c 0 ≤ 4096) (hs : size < 4294967296) :
  Ret tab 235 [ptr q,.int .i64 (c : Nat),.int .i64 (size : Nat)] h R = R (.int .i64 (size / 4096 * p.getD c 0 : Nat)) h := by
 have g := nI_get hc
 have d : ((size : Int)).tdiv 4096 = ((size / 4096 : Nat) : Int) := by rw [Int.tdiv_eq_ediv_of_nonneg (by omega)]; omega
 have w1 : IntKind.i64.wrap ((size / 4096 : Nat) : Int) = ((size / 4096 : Nat) : Int) := wrapN (by omega)
 have hm := Nat.mul_le_mul (show size / 4096 ≤ 1048576 by omega) hpc
 generalize hx : p.getD c 0 = x at *
 have w2 : IntKind.i64.wrap (((size / 4096 : Nat) : Int) * (x : Int)) = ((size / 4096 * x : Nat) : Int) := by
  rw [← Int.natCast_mul]; exact wrapN (by omega)
 generalize ((size / 4096 * x : Nat) : Int) = y at *
 generalize hz : ((size / 4096 : Nat) : Int) = z' at *
 generalize nI p = C at *
 rw [enter235,B235]
 simp [-Int.natCast_ediv,h1,h2,hc,g,d,w1,w2,fin235]
theorem adapt_eq {x b : Nat} (hx : POk x) (hb : b < 2) : Ret tab 237 [.int .i64 (x : Nat),.int .i64 (b : Nat)] h R = R (.int .i64 (adaptP x b : Nat)) h := by
 obtain ⟨h1,h2⟩ := hx
 have n1 : ¬ ((x : Int) < 0) := by omega
 have n2 : ¬ ((4096 : Int) < x) := by omega
 rw [enter237,B237]
 unfold adaptP
 by_cases hb0 : b = 0
 ·subst hb0
  have w1 : IntKind.i64.wrap (4096 - (x : Int)) = 4096 - (x : Int) := wrapI (by omega) (by omega)
  have d : (4096 - (x : Int)).tdiv 32 = (4096 - (x : Int)) / 32 := Int.tdiv_eq_ediv_of_nonneg (by omega)
  have w2 : IntKind.i64.wrap ((4096 - (x : Int)) / 32) = (4096 - (x : Int)) / 32 := wrapI (by omega) (by omega)
  have w3 : IntKind.i64.wrap ((x : Int) + (4096 - (x : Int)) / 32) = ((x + (4096 - x) / 32 : Nat) : Int) := by rw [wrapI (by omega) (by omega)]; omega
  rw [if_pos rfl]
  generalize ((x + (4096 - x) / 32 : Nat) : Int) = y at *
  simp [k_guard,n1,n2,w1,d,w2,w3,fin237]
 ·obtain rfl : b = 1 := by omega
  have d : ((x : Int)).tdiv 32 = (x : Int) / 32 := Int.tdiv_eq_ediv_of_nonneg (by omega)
  have w2 : IntKind.i64.wrap ((x : Int) / 32) = (x : Int) / 32 := wrapI (by omega) (by omega)
  have w3 : IntKind.i64.wrap ((x : Int) - (x : Int) / 32) = ((x - x / 32 : Nat) : Int) := by rw [wrapI (by omega) (by omega)]; omega
  rw [if_neg (by omega)]
  generalize ((x - x / 32 : Nat) : Int) = y at *
  simp [k_guard,n1,n2,d,w2,w3,fin237]
theorem adapt_c {q : Nat} {cs : List Value} {c b : Nat} {z : Nat} (h1 : blk? h q = some ⟨false,.slice (some ⟨z,0,none⟩) p.length 1 :: cs⟩) (h2 : blk? h z = some ⟨false,nI p⟩) (hne : q ≠ z) (hc : c < p.length) (hp : PsOk p) (hb : b < 2) :
  Ret tab 236 [ptr q,.int .i64 (c : Nat),.int .i64 (b : Nat)] h R = R (.tuple #[]) (h.set z (some ⟨false,nI (p.set c (adaptP (p.getD c 0) b))⟩)) := by
 have g := nI_get hc
 have ha := fun H R => adapt_eq (h := H) (R := R) (hp.getD hc) hb
 have hs := nI_set (xs := p) (i := c) (v := adaptP (p.getD c 0) b)
 have hl : c + 1 ≤ (nI p).length := by rw [nI_len]; exact hc
 have hz := blk?_lt h2
 have hl1 : blk? (h.set z (some ⟨false,nI (p.set c (adaptP (p.getD c 0) b))⟩)) q = some ⟨false,.slice (some ⟨z,0,none⟩) p.length 1 :: cs⟩ := by rw [blk?_set_ne (Ne.symm hne)]; exact h1
 have g' := get_of g
 generalize p.set c (adaptP (p.getD c 0) b) = p' at *
 generalize adaptP (p.getD c 0) b = v at *
 generalize p.getD c 0 = x at *
 generalize nI p = C at *
 rw [enter236,B236]
 simp [book,logOf,addLog,chk1,lookL,reload,h1,h2,hc,g,g',ha,hl,hs,hl1,fin236]
theorem addD_255 : ∀ (n : Nat),addD (List.replicate n 255) 1 = (1,List.replicate n 0)
 | 0 => rfl
 | n + 1 => by rw [List.replicate_succ,addD,addD_255 n,List.replicate_succ]; simp
theorem carry_loop {id n : Nat} {xs : List Nat} (hd : Dig xs) (hid : id < h.length) (hl : xs.length < 1000000000) {k : List RItem} {res : Prop}
  (hr : R (.tuple #[]) (h.set id (some ⟨false,nU (addD xs 1).2⟩)) = res)
  (hk : ∀ K1 K2 K3 K4 K5 K6 K7 K8 K9 Ka Kb Kc Kd Ke Kf Kg Kh Ki Kj Kk : Value,Ok tab R233 k #[.slice (some ⟨id,0,none⟩) xs.length 1,K1,K2,K3,K4,K5,K6,K7,K8,K9,Ka,Kb,Kc,Kd,Ke,Kf,Kg,Kh,Ki,Kj,Kk] (h.set id (some ⟨false,nU (addD xs 1).2⟩)) R = res) :
  ∀ (i m : Nat) (K1 K3 K4 K5 K6 K7 K8 K9 Ka Kb Kc Kd Ke Kf Kg Kh Ki Kj Kk : Value),i + m = xs.length → xs.drop i = List.replicate m 255 →
   Ok tab R233 (.inLoop L233_0 :: .inBlock 0 :: k) #[.slice (some ⟨id,0,none⟩) xs.length 1,K1,.int .i64 ((i : Int) - 1),K3,K4,K5,K6,K7,K8,K9,Ka,Kb,Kc,Kd,Ke,Kf,Kg,Kh,Ki,Kj,Kk] (h.set id (some ⟨false,nU (xs.take i ++ List.replicate m 0)⟩)) R = res := by
 intro i
 induction i with
 | zero =>
  intro m;intros;rename_i him hdr
  rw [List.drop_zero] at hdr
  have e : (addD xs 1).2 = List.replicate m 0 := by rw [hdr,addD_255]
  have hk' := fun K1 K2 K3 K4 K5 K6 K7 K8 K9 Ka Kb Kc Kd Ke Kf Kg Kh Ki Kj Kk => hk K1 K2 K3 K4 K5 K6 K7 K8 K9 Ka Kb Kc Kd Ke Kf Kg Kh Ki Kj Kk
  rw [e] at hk'
  rw [ok_round,l233_0,L233_0a,L233_0b]
  simp [hk']
 | succ i ih =>
  intro m;intros;rename_i him hdr
  have hi : i < xs.length := by omega
  have hx : xs.drop i = xs[i] :: xs.drop (i + 1) := List.drop_eq_getElem_cons hi
  have hlt : xs[i] < 256 := hd _ (List.getElem_mem hi)
  have hbk : blk? (h.set id (some ⟨false,nU (xs.take (i + 1) ++ List.replicate m 0)⟩)) id = some ⟨false,nU (xs.take (i + 1) ++ List.replicate m 0)⟩ := blk?_set_eq hid
  have hcl : (xs.take (i + 1) ++ List.replicate m 0).length = xs.length := by simp; omega
  have hil : i < (xs.take (i + 1) ++ List.replicate m 0).length := by omega
  have hg : (nU (xs.take (i + 1) ++ List.replicate m 0))[i]? = some (.int .u8 (xs[i] : Nat)) := by
   rw [nU_get hil,List.getD_eq_getElem?_getD,List.getElem?_append_left (by simp; omega),List.getElem?_take,if_pos (by omega),List.getElem?_eq_getElem hi]; rfl
  have c1 : (((i + 1 : Nat) : Int) - 1) = (i : Int) := by omega
  have w1 : IntKind.i64.wrap ((i : Int) - 1) = (i : Int) - 1 := wrapI (by omega) (by omega)
  have wu : IntKind.u8.wrap ((xs[i] : Int) + 1) = (((xs[i] + 1) % 256 : Nat) : Int) := by
   rw [IntKind.wrap_u8]; omega
  have hil2 : i + 1 ≤ (nU (xs.take (i + 1) ++ List.replicate m 0)).length := by rw [nU_len]; exact hil
  have hst := nU_set (xs := xs.take (i + 1) ++ List.replicate m 0) (i := i) (v := (xs[i] + 1) % 256)
  have hlist : (xs.take (i + 1) ++ List.replicate m 0).set i ((xs[i] + 1) % 256) = xs.take i ++ ((xs[i] + 1) % 256) :: List.replicate m 0 := by
   rw [List.take_succ_eq_append_getElem hi,List.append_assoc,List.set_append_right _ _ (by simp; omega)]
   simp [Nat.min_eq_left (show i ≤ xs.length by omega)]
  rw [hlist] at hst
  rw [c1]
  by_cases h255 : xs[i] = 255
  ·have hz : (xs[i] + 1) % 256 = 0 := by omega
   rw [hz] at hst wu
   have ih' := fun K1 K3 K4 K5 K6 K7 K8 K9 Ka Kb Kc Kd Ke Kf Kg Kh Ki Kj Kk => ih (m + 1) K1 K3 K4 K5 K6 K7 K8 K9 Ka Kb Kc Kd Ke Kf Kg Kh Ki Kj Kk (by omega) (by rw [hx,hdr,h255,List.replicate_succ])
   rw [List.replicate_succ] at ih'
   generalize hA : xs.take i ++ 0 :: List.replicate m 0 = A at *
   have hbk2 : blk? (h.set id (some ⟨false,nU A⟩)) id = some ⟨false,nU A⟩ := blk?_set_eq hid
   have hg2 : (nU A)[i]? = some (.int .u8 0) := by
    rw [nU_get (by rw [← hA]; simp; omega),← hA,List.getD_eq_getElem?_getD,List.getElem?_append_right (by simp; omega)]
    simp [Nat.min_eq_left (show i ≤ xs.length by omega)]
   generalize nU (xs.take (i + 1) ++ List.replicate m 0) = C at *
   generalize nU A = C2 at *
   have wu' : IntKind.u8.wrap ((xs[i] : Int) + 1) = 0 := wu
   have hst' : C.set i (.int .u8 0) = C2 := hst
   rw [ok_round,l233_0,L233_0a,L233_0b]
   have g1 := get_of hg
   have g2 := get_of hg2
   have hlc : i < C2.length := by rw [← hst',List.length_set]; omega
   generalize ((xs[i] : Nat) : Int) = xi at *
   simp [hi,hbk,hg,g1,wu',hil2,hst',hbk2,hg2,g2,w1,ih']
  ·have hz : (xs[i] + 1) % 256 = xs[i] + 1 := by omega
   rw [hz] at hst wu
   have e : (addD xs 1).2 = xs.take i ++ (xs[i] + 1) :: List.replicate m 0 := by
    have hxs : xs = xs.take i ++ xs[i] :: List.replicate m 255 := by rw [← hdr,← hx,List.take_append_drop]
    have h1 : addD (xs[i] :: List.replicate m 255) 1 = (0,(xs[i] + 1) :: List.replicate m 0) := by
     rw [addD,addD_255]
     simp only
     rw [Nat.add_comm 1,Nat.div_eq_of_lt (by omega),Nat.mod_eq_of_lt (by omega)]
    have hdt : Dig (xs.take i) := hd.take i
    have h2 : addD xs 1 = addD (xs.take i ++ xs[i] :: List.replicate m 255) 1 := congrArg (addD · 1) hxs
    rw [h2,addD_append,h1]
    simp only
    rw [addD_zero hdt]
   have hk2 := hr
   rw [e] at hk2
   generalize hA : xs.take i ++ (xs[i] + 1) :: List.replicate m 0 = A at *
   have hbk2 : blk? (h.set id (some ⟨false,nU A⟩)) id = some ⟨false,nU A⟩ := blk?_set_eq hid
   have hg2 : (nU A)[i]? = some (.int .u8 ((xs[i] + 1 : Nat) : Int)) := by
    rw [nU_get (by rw [← hA]; simp; omega),← hA,List.getD_eq_getElem?_getD,List.getElem?_append_right (by simp; omega)]
    simp [Nat.min_eq_left (show i ≤ xs.length by omega)]
   have hnz : ((xs[i] + 1 : Nat) : Int) ≠ 0 := by omega
   have hnz' : (((xs[i] + 1 : Nat) : Int) != 0) = true := by simp; omega
   generalize ((xs[i] + 1 : Nat) : Int) = v1 at *
   generalize nU (xs.take (i + 1) ++ List.replicate m 0) = C at *
   generalize nU A = C2 at *
   rw [ok_round,l233_0,L233_0a,L233_0b]
   have g1 := get_of hg
   have g2 := get_of hg2
   have hlc : i < C2.length := by rw [← hst,List.length_set]; omega
   generalize ((xs[i] : Nat) : Int) = xi at *
   simp [hi,hbk,hg,g1,wu,hil2,hst,hbk2,hg2,g2,hnz,hnz',hk2,fin233]
theorem carry_c {o : Value} {xs : List Nat} (ho : OwnS h 1 o xs.length (nU xs)) (hd : Dig xs) (hl : xs.length < 1000000000) :
  ∃ h',(∀ R,Ret tab 233 [o] h R = R (.tuple #[]) h') ∧ OwnS h' 1 o xs.length (nU (addD xs 1).2) ∧ h'.length = h.length ∧ ∀ id,sid o ≠ some id → blk? h' id = blk? h id := by
 rcases ho.2 with ⟨rfl,h0⟩ | ⟨id,rfl,hb⟩
 ·have hx : xs = [] := List.eq_nil_of_length_eq_zero h0
  subst hx
  refine ⟨h,fun R => ?_,OwnS.nil _ _,rfl,fun _ _ => rfl⟩
  rw [enter233,B233]
  have w0 : IntKind.i64.wrap (-1) = -1 := wrapI (by omega) (by omega)
  simp [ok_round,l233_0,L233_0a,w0,fin233]
 ·have hid := blk?_lt hb
  have e0 : h.set id (some ⟨false,nU (xs.take xs.length ++ List.replicate 0 0)⟩) = h := by
   rw [List.take_length,List.replicate_zero,List.append_nil]
   unfold blk? at hb
   split at hb
   ·rename_i b hx
    injection hb with hb
    subst hb
    obtain ⟨hlt,hg⟩ := List.getElem?_eq_some_iff.1 hx
    rw [← hg,List.set_getElem_self]
   ·cases hb
  refine ⟨h.set id (some ⟨false,nU (addD xs 1).2⟩),fun R => ?_,⟨by rw [nU_len,addD_len,Nat.mul_one],.inr ⟨id,rfl,blk?_set_eq hid⟩⟩,by simp,fun j hj => blk?_set_ne (fun e => hj (by rw [e]; rfl))⟩
  have hL := fun K1 K3 K4 K5 K6 K7 K8 K9 Ka Kb Kc Kd Ke Kf Kg Kh Ki Kj Kk => carry_loop (R := R) (id := id) (n := 0) hd hid hl (k := []) (res := R (.tuple #[]) (h.set id (some ⟨false,nU (addD xs 1).2⟩))) rfl
   (fun K1 K2 K3 K4 K5 K6 K7 K8 K9 Ka Kb Kc Kd Ke Kf Kg Kh Ki Kj Kk => by simp [fin233]) xs.length 0 K1 K3 K4 K5 K6 K7 K8 K9 Ka Kb Kc Kd Ke Kf Kg Kh Ki Kj Kk (by omega) (by rw [List.drop_length]; rfl)
  rw [e0] at hL
  have w1 : IntKind.i64.wrap ((xs.length : Int) - 1) = (xs.length : Int) - 1 := wrapI (by omega) (by omega)
  rw [enter233,B233]
  simp [w1,hL]
end
structure EA (h : Heap) (e pb : Nat) (o : Value) (out : List Nat) (low : Nat) (a : AE) : Prop where
 ep : EP h e pb o a.p out low a.size a.begun
 ds : a.ds = out ++ dig4 low
 lt : low < 4294967296
 ok : a.Ok
 pos : 0 < a.p.length
theorem EA.dig {h : Heap} {e pb : Nat} {o : Value} {out : List Nat} {low : Nat} {a : AE} (I : EA h e pb o out low a) : Dig out := by
 have := I.ok.dig
 rw [I.ds] at this
 exact fun d hd => this d (by simp [hd])
section
variable {h : Heap} {R : Value → Heap → Prop} {e pb : Nat} {o : Value} {p out : List Nat} {low size : Nat} {begun : Bool}
theorem EP.set (I : EP h e pb o p out low size begun) (low' size' : Nat) (begun' : Bool) :
  EP (h.set e (some ⟨false,[.slice (some ⟨pb,0,none⟩) p.length 1,o,.int .i64 (low' : Nat),.int .i64 (size' : Nat),.bool begun']⟩)) e pb o p out low' size' begun' ∧
  EF h (h.set e (some ⟨false,[.slice (some ⟨pb,0,none⟩) p.length 1,o,.int .i64 (low' : Nat),.int .i64 (size' : Nat),.bool begun']⟩)) e pb o o := by
 have he := blk?_lt I.blk
 refine ⟨⟨blk?_set_eq he,by rw [blk?_set_ne I.ne1]; exact I.pblk,I.own.of_blk fun id hid hb => by rw [blk?_set_ne (fun x => I.ne2 (by rw [x]; exact hid))]; exact hb,I.ne1,I.ne2,I.ne3⟩,
  ⟨by simp,fun id _ h1 _ _ => blk?_set_ne (Ne.symm h1),fun id hid => .inl hid⟩⟩
theorem norm_eq {n : Nat} (h0 : n < 4294967296) : shrI .i64 (n : Int) 24 = ((n / 16777216 : Nat) : Int) ∧ IntKind.u8.wrap ((n / 16777216 : Nat) : Int) = ((n / 16777216 : Nat) : Int) ∧
  andI .i64 (shlI .i64 (n : Int) 8) 4294967295 = ((n * 256 % 4294967296 : Nat) : Int) := by
 refine ⟨?_,?_,?_⟩
 ·have := shrN (i := .i64) (a := n) (b := 24) (by decide)
  simpa using this
 ·rw [IntKind.wrap_u8]; omega
 ·have e1 : shlI .i64 (n : Int) 8 = ((n * 256 : Nat) : Int) := by
   unfold shlI
   have : min (8 : Int).toNat IntKind.i64.bits = 8 := by decide
   rw [this]
   have e2 : ((n : Int) * 2 ^ 8) = ((n * 256 : Nat) : Int) := by omega
   rw [e2]; exact wrapN (by omega)
  rw [e1]
  unfold andI
  have e3 : (BitVec.ofInt IntKind.i64.bits ((n * 256 : Nat) : Int) &&& BitVec.ofInt IntKind.i64.bits 4294967295).toNat = n * 256 % 4294967296 := by
   rw [BitVec.toNat_and]
   have a1 : (BitVec.ofInt IntKind.i64.bits ((n * 256 : Nat) : Int)).toNat = n * 256 := by
    rw [BitVec.ofInt_natCast,BitVec.toNat_ofNat]
    exact Nat.mod_eq_of_lt (by show n * 256 < 2 ^ 64; omega)
   have a2 : (BitVec.ofInt IntKind.i64.bits 4294967295).toNat = 2 ^ 32 - 1 := by decide
   rw [a1,a2,Nat.and_two_pow_sub_one_eq_mod]
  rw [e3]
  exact wrapN (by omega)
theorem app1v {H : Heap} {s v : Value} {n bytes : Nat} {cs : List Value} (ho : OwnS H 1 s n cs) (hn : n + 1 ≤ roomCells) (hb : bytes ≤ 4096) :
  ∃ H1,appendV (H ++ [some ⟨false,[v]⟩]) 1 bytes s (.slice (some ⟨H.length,0,none⟩) 1 1) = some (.slice (some ⟨H.length + 1,0,none⟩) (n + 1) 1,H1) ∧
   blk? H1 (H.length + 1) = some ⟨false,cs ++ [v]⟩ ∧ H1.length = H.length + 2 ∧ ∀ id,id < H.length → sid s ≠ some id → blk? H1 id = blk? H id := by
 have ho' : OwnS (H ++ [some ⟨false,[v]⟩]) 1 s n cs := ho.of_blk fun id hid hb => by rw [blk?_push_lt (blk?_lt hb)]; exact hb
 have ht : Sl (H ++ [some ⟨false,[v]⟩]) 1 (.slice (some ⟨H.length,0,none⟩) 1 1) 1 [v] := ⟨rfl,.inr ⟨H.length,0,rfl,.inr ⟨_,blk?_push_eq,by simp,by simp⟩⟩⟩
 obtain ⟨H1,e,hb,hl,hk⟩ := own_append ho' ht hn hb (by omega)
 have hlen : (H ++ [some (⟨false,[v]⟩ : Blk)]).length = H.length + 1 := by simp
 rw [hlen] at e hb hl hk
 exact ⟨H1,e,hb,hl,fun id hid hne => by rw [hk id (by omega) hne,blk?_push_lt hid]⟩
theorem dig4_shift {low : Nat} (h : low < 4294967296) : low / 16777216 :: dig4 (low * 256 % 4294967296) = dig4 low ++ [0] := by
 have a1 : low * 256 % 4294967296 / 16777216 = low / 65536 % 256 := by omega
 have a2 : low * 256 % 4294967296 / 65536 % 256 = low / 256 % 256 := by omega
 have a3 : low * 256 % 4294967296 / 256 % 256 = low % 256 := by omega
 have a4 : low * 256 % 4294967296 % 256 = 0 := by omega
 simp only [dig4,List.cons_append,List.nil_append,a1,a2,a3,a4]
theorem norm_c (I : EP h e pb o p out low size begun) (hl : low < 4294967296) (h1 : 65536 ≤ size) (h2 : size < 4294967296) (hol : out.length < 1000000000) {v1 v2 : Value} :
  ∃ h' o' out' low' size',EP h' e pb o' p out' low' size' begun ∧ EF h h' e pb o o' ∧ low' < 4294967296 ∧ out'.length ≤ out.length + 1 ∧
   out' ++ dig4 low' = (if size < 16777216 then out ++ dig4 low ++ [0] else out ++ dig4 low) ∧ size' = (if size < 16777216 then size * 256 else size) ∧
   ∀ (k : List RItem) (K3 K4 K5 K6 K7 K8 K9 Ka Kb Kc Kd Ke Kf Kg Kh Ki Kj Kk Kl Km Kn Ko Kp Kq Kr Ks Kt Ku Kv Kw Kx Ky Kz J0 J1 J2 J3 J4 J5 J6 J7 J8 J9 Ja Jb Jc Jd Je Jf Jg Jh Ji Jj Jk Jl Jm Jn Jo Jp Jq Jr Js Jt Ju Jv Jw Jx Jy Jz Y0 Y1 Y2 Y3 Y4 Y5 Y6 Y7 Y8 Y9 Ya Yb Yc Yd Ye Yf Yg Yh Yi Yj Yk Yl Ym Yn Yo Yp Yq Yr Ys Yt Yu Yv Yw Yx Yy Yz Z0 Z1 Z2 Z3 Z4 Z5 Z6 Z7 Z8 Z9 : Value),(∀ K3 K4 K5 K6 K7 K8 K9 Ka Kb Kc Kd Ke Kf Kg Kh Ki Kj Kk Kl Km Kn Ko Kp Kq Kr Ks Kt Ku Kv Kw Kx Ky Kz J0 J1 J2 J3 J4 J5 J6 J7 J8 J9 Ja Jb Jc Jd Je Jf Jg Jh Ji Jj Jk Jl Jm Jn Jo Jp Jq Jr Js Jt Ju Jv Jw Jx Jy Jz Y0 Y1 Y2 Y3 Y4 Y5 Y6 Y7 Y8 Y9 Ya Yb Yc Yd Ye Yf Yg Yh Yi Yj Yk Yl Ym Yn Yo Yp Yq Yr Ys Yt Yu Yv Yw Yx Yy Yz Z0 Z1 Z2 Z3 Z4 Z5 Z6 Z7 Z8 Z9 : Value,Ok tab R231 k #[ptr e,v1,v2,K3,K4,K5,K6,K7,K8,K9,Ka,Kb,Kc,Kd,Ke,Kf,Kg,Kh,Ki,Kj,Kk,Kl,Km,Kn,Ko,Kp,Kq,Kr,Ks,Kt,Ku,Kv,Kw,Kx,Ky,Kz,J0,J1,J2,J3,J4,J5,J6,J7,J8,J9,Ja,Jb,Jc,Jd,Je,Jf,Jg,Jh,Ji,Jj,Jk,Jl,Jm,Jn,Jo,Jp,Jq,Jr,Js,Jt,Ju,Jv,Jw,Jx,Jy,Jz,Y0,Y1,Y2,Y3,Y4,Y5,Y6,Y7,Y8,Y9,Ya,Yb,Yc,Yd,Ye,Yf,Yg,Yh,Yi,Yj,Yk,Yl,Ym,Yn,Yo,Yp,Yq,Yr,Ys,Yt,Yu,Yv,Yw,Yx,Yy,Yz,Z0,Z1,Z2,Z3,Z4,Z5,Z6,Z7,Z8,Z9] h' R) →
    Ok tab R231 (.inLoop L231_0 :: .inBlock 0 :: k) #[ptr e,v1,v2,K3,K4,K5,K6,K7,K8,K9,Ka,Kb,Kc,Kd,Ke,Kf,Kg,Kh,Ki,Kj,Kk,Kl,Km,Kn,Ko,Kp,Kq,Kr,Ks,Kt,Ku,Kv,Kw,Kx,Ky,Kz,J0,J1,J2,J3,J4,J5,J6,J7,J8,J9,Ja,Jb,Jc,Jd,Je,Jf,Jg,Jh,Ji,Jj,Jk,Jl,Jm,Jn,Jo,Jp,Jq,Jr,Js,Jt,Ju,Jv,Jw,Jx,Jy,Jz,Y0,Y1,Y2,Y3,Y4,Y5,Y6,Y7,Y8,Y9,Ya,Yb,Yc,Yd,Ye,Yf,Yg,Yh,Yi,Yj,Yk,Yl,Ym,Yn,Yo,Yp,Yq,Yr,Ys,Yt,Yu,Yv,Yw,Yx,Yy,Yz,Z0,Z1,Z2,Z3,Z4,Z5,Z6,Z7,Z8,Z9] h R := by
 have hb := I.blk
 by_cases hs : size < 16777216
 ·obtain ⟨q1,q2,q3⟩ := norm_eq hl
  obtain ⟨H1,ha,hb1,hlen1,hk1⟩ := app1v (v := .int .u8 ((low / 16777216 : Nat) : Int)) (bytes := 1) I.own (by unfold roomCells; omega) (by omega)
  have he := blk?_lt I.blk
  have heH : e < H1.length := by omega
  have hbe : blk? H1 e = some ⟨false,[.slice (some ⟨pb,0,none⟩) p.length 1,o,.int .i64 (low : Nat),.int .i64 (size : Nat),.bool begun]⟩ := by rw [hk1 e he I.ne2]; exact hb
  have hse : ∀ x,blk? (H1.set e x) e = x := fun x => blk?_set_eq heH
  have hS : shlI .i64 (size : Int) 8 = ((size * 256 : Nat) : Int) := by
   unfold shlI
   have : min (8 : Int).toNat IntKind.i64.bits = 8 := by decide
   rw [this]
   have e2 : ((size : Int) * 2 ^ 8) = ((size * 256 : Nat) : Int) := by omega
   rw [e2]; exact wrapN (by omega)
  have hlt : ((size : Int) < 16777216) := by omega
  have hge : ¬ (((size * 256 : Nat) : Int) < 16777216) := by omega
  refine ⟨H1.set e (some ⟨false,[.slice (some ⟨pb,0,none⟩) p.length 1,.slice (some ⟨h.length + 1,0,none⟩) (out.length + 1) 1,.int .i64 ((low * 256 % 4294967296 : Nat) : Int),.int .i64 ((size * 256 : Nat) : Int),.bool begun]⟩),.slice (some ⟨h.length + 1,0,none⟩) (out.length + 1) 1,out ++ [low / 16777216],low * 256 % 4294967296,size * 256,?_,?_,Nat.mod_lt _ (by decide),by simp,?_,by rw [if_pos hs],?_⟩
  ·have hpb := blk?_lt I.pblk
   refine ⟨hse _,by rw [blk?_set_ne I.ne1,hk1 pb hpb I.ne3]; exact I.pblk,⟨by simp [nU],.inr ⟨h.length + 1,by simp,?_⟩⟩,I.ne1,by simp [sid]; omega,by simp [sid]; omega⟩
   rw [blk?_set_ne (by omega),hb1]; simp [nU]
  ·refine ⟨by simp; omega,fun id hid h3 h4 h5 => by rw [blk?_set_ne (Ne.symm h3),hk1 id hid h5],fun id hid => ?_⟩
   simp [sid] at hid
   subst hid
   right; simp; omega
  ·rw [if_pos hs,List.append_assoc,List.singleton_append,dig4_shift hl,List.append_assoc]
  ·intro k;intros;rename_i hk
   generalize ((low * 256 % 4294967296 : Nat) : Int) = low' at *
   generalize ((size * 256 : Nat) : Int) = size' at *
   generalize ((low / 16777216 : Nat) : Int) = top at *
   rw [ok_round,l231_0,L231_0a,L231_0b]
   simp [repL,hb,hlt,q1,q2,q3,ha,hbe,hse,hS]
   rw [ok_round,l231_0,L231_0a,L231_0b]
   simp [hse,hge]
   exact hk ..
 ·have hlt : ¬ ((size : Int) < 16777216) := by omega
  refine ⟨h,o,out,low,size,I,EF.refl _ _ _ _,hl,by omega,by rw [if_neg hs],by rw [if_neg hs],?_⟩
  intro k;intros;rename_i hk
  rw [ok_round,l231_0,L231_0a,L231_0b]
  simp [hb,hlt]
  exact hk ..
end
def byteAt (bs : List Nat) (j : Nat) : Nat :=
 bs.getD (8 * j) 0 * 128 + bs.getD (8 * j + 1) 0 * 64 + bs.getD (8 * j + 2) 0 * 32 + bs.getD (8 * j + 3) 0 * 16 + bs.getD (8 * j + 4) 0 * 8 + bs.getD (8 * j + 5) 0 * 4 + bs.getD (8 * j + 6) 0 * 2 + bs.getD (8 * j + 7) 0
def bytesOf (bs : List Nat) (m : Nat) : List Nat := (List.range m).map (byteAt bs)
def pack (bs : List Nat) : List Nat := bytesOf bs ((bs.length + 7) / 8)
def AreBits (bs : List Nat) : Prop := ∀ b ∈ bs,b ≤ 1
theorem AreBits.getD {bs : List Nat} (h : AreBits bs) (i : Nat) : bs.getD i 0 ≤ 1 := by
 rw [List.getD_eq_getElem?_getD]
 cases hi : bs[i]? with
 | none => simp
 | some b => exact h b (List.mem_of_getElem? hi)
theorem AreBits.push {bs : List Nat} (h : AreBits bs) {b : Nat} (hb : b ≤ 1) : AreBits (bs ++ [b]) := by
 intro x hx
 rw [List.mem_append] at hx
 rcases hx with hx | hx
 ·exact h x hx
 ·simp at hx; omega
theorem byteAt_lt {bs : List Nat} (h : AreBits bs) (j : Nat) : byteAt bs j < 256 := by
 unfold byteAt
 have := h.getD (8 * j); have := h.getD (8 * j + 1); have := h.getD (8 * j + 2); have := h.getD (8 * j + 3)
 have := h.getD (8 * j + 4); have := h.getD (8 * j + 5); have := h.getD (8 * j + 6); have := h.getD (8 * j + 7)
 omega
theorem getD_push (bs : List Nat) (b i : Nat) : (bs ++ [b]).getD i 0 = if i = bs.length then b else bs.getD i 0 := by
 simp only [List.getD_eq_getElem?_getD]
 by_cases h : i < bs.length
 ·rw [List.getElem?_append_left h,if_neg (by omega)]
 ·by_cases h2 : i = bs.length
  ·subst h2; simp
  ·rw [if_neg h2,List.getElem?_eq_none (by simp; omega),List.getElem?_eq_none (by omega)]
theorem getD_out {bs : List Nat} {i : Nat} (h : bs.length ≤ i) : bs.getD i 0 = 0 := by
 rw [List.getD_eq_getElem?_getD,List.getElem?_eq_none h]; rfl
theorem byteAt_push (bs : List Nat) (b j : Nat) : byteAt (bs ++ [b]) j = if j = bs.length / 8 then byteAt bs j + b * 2 ^ (7 - bs.length % 8) else byteAt bs j := by
 unfold byteAt
 simp only [getD_push]
 by_cases hj : j = bs.length / 8
 ·rw [if_pos hj]
  have h8 : bs.length % 8 < 8 := Nat.mod_lt _ (by omega)
  generalize hn : bs.length = n at *
  have : n % 8 = 0 ∨ n % 8 = 1 ∨ n % 8 = 2 ∨ n % 8 = 3 ∨ n % 8 = 4 ∨ n % 8 = 5 ∨ n % 8 = 6 ∨ n % 8 = 7 := by omega
  rcases this with h | h | h | h | h | h | h | h
  ·rw [if_pos (by omega),if_neg (by omega),if_neg (by omega),if_neg (by omega),if_neg (by omega),if_neg (by omega),if_neg (by omega),if_neg (by omega),getD_out (show bs.length ≤ 8 * j by omega),h]; omega
  ·rw [if_neg (by omega),if_pos (by omega),if_neg (by omega),if_neg (by omega),if_neg (by omega),if_neg (by omega),if_neg (by omega),if_neg (by omega),getD_out (show bs.length ≤ 8 * j + 1 by omega),h]; omega
  ·rw [if_neg (by omega),if_neg (by omega),if_pos (by omega),if_neg (by omega),if_neg (by omega),if_neg (by omega),if_neg (by omega),if_neg (by omega),getD_out (show bs.length ≤ 8 * j + 2 by omega),h]; omega
  ·rw [if_neg (by omega),if_neg (by omega),if_neg (by omega),if_pos (by omega),if_neg (by omega),if_neg (by omega),if_neg (by omega),if_neg (by omega),getD_out (show bs.length ≤ 8 * j + 3 by omega),h]; omega
  ·rw [if_neg (by omega),if_neg (by omega),if_neg (by omega),if_neg (by omega),if_pos (by omega),if_neg (by omega),if_neg (by omega),if_neg (by omega),getD_out (show bs.length ≤ 8 * j + 4 by omega),h]; omega
  ·rw [if_neg (by omega),if_neg (by omega),if_neg (by omega),if_neg (by omega),if_neg (by omega),if_pos (by omega),if_neg (by omega),if_neg (by omega),getD_out (show bs.length ≤ 8 * j + 5 by omega),h]; omega
  ·rw [if_neg (by omega),if_neg (by omega),if_neg (by omega),if_neg (by omega),if_neg (by omega),if_neg (by omega),if_pos (by omega),if_neg (by omega),getD_out (show bs.length ≤ 8 * j + 6 by omega),h]; omega
  ·rw [if_neg (by omega),if_neg (by omega),if_neg (by omega),if_neg (by omega),if_neg (by omega),if_neg (by omega),if_neg (by omega),if_pos (by omega),getD_out (show bs.length ≤ 8 * j + 7 by omega),h]; omega
 ·rw [if_neg hj]
  rw [if_neg (by omega),if_neg (by omega),if_neg (by omega),if_neg (by omega),if_neg (by omega),if_neg (by omega),if_neg (by omega),if_neg (by omega)]
theorem byteAt_mod (bs : List Nat) : byteAt bs (bs.length / 8) % 2 ^ (8 - bs.length % 8) = 0 := by
 unfold byteAt
 have h8 : bs.length % 8 < 8 := Nat.mod_lt _ (by omega)
 have out : ∀ i,bs.length % 8 ≤ i → bs.getD (8 * (bs.length / 8) + i) 0 = 0 := fun i hi => getD_out (by omega)
 have : bs.length % 8 = 0 ∨ bs.length % 8 = 1 ∨ bs.length % 8 = 2 ∨ bs.length % 8 = 3 ∨ bs.length % 8 = 4 ∨ bs.length % 8 = 5 ∨ bs.length % 8 = 6 ∨ bs.length % 8 = 7 := by omega
 have o7 := out 7 (by omega)
 rcases this with h | h | h | h | h | h | h | h <;> rw [h] at out ⊢ <;> rw [o7]
 ·rw [show 8 * (bs.length / 8) = 8 * (bs.length / 8) + 0 from rfl,out 0 (by omega),out 1 (by omega),out 2 (by omega),out 3 (by omega),out 4 (by omega),out 5 (by omega),out 6 (by omega)]
 ·rw [out 1 (by omega),out 2 (by omega),out 3 (by omega),out 4 (by omega),out 5 (by omega),out 6 (by omega)]; omega
 ·rw [out 2 (by omega),out 3 (by omega),out 4 (by omega),out 5 (by omega),out 6 (by omega)]; omega
 ·rw [out 3 (by omega),out 4 (by omega),out 5 (by omega),out 6 (by omega)]; omega
 ·rw [out 4 (by omega),out 5 (by omega),out 6 (by omega)]; omega
 ·rw [out 5 (by omega),out 6 (by omega)]; omega
 ·rw [out 6 (by omega)]; omega
 ·omega
theorem byteAt_bit {bs : List Nat} (h : AreBits bs) (i : Nat) : byteAt bs (i / 8) / 2 ^ (7 - i % 8) % 2 = bs.getD i 0 := by
 unfold byteAt
 have h0 := h.getD (8 * (i / 8)); have h1 := h.getD (8 * (i / 8) + 1); have h2 := h.getD (8 * (i / 8) + 2); have h3 := h.getD (8 * (i / 8) + 3)
 have h4 := h.getD (8 * (i / 8) + 4); have h5 := h.getD (8 * (i / 8) + 5); have h6 := h.getD (8 * (i / 8) + 6); have h7 := h.getD (8 * (i / 8) + 7)
 have h8 : i % 8 < 8 := Nat.mod_lt _ (by omega)
 have e : bs.getD i 0 = bs.getD (8 * (i / 8) + i % 8) 0 := by rw [Nat.div_add_mod]
 rw [e]
 have : i % 8 = 0 ∨ i % 8 = 1 ∨ i % 8 = 2 ∨ i % 8 = 3 ∨ i % 8 = 4 ∨ i % 8 = 5 ∨ i % 8 = 6 ∨ i % 8 = 7 := by omega
 rcases this with h | h | h | h | h | h | h | h <;> rw [h] <;> (try simp only [Nat.add_zero]) <;> omega
theorem bytesOf_get {bs : List Nat} {m j : Nat} (h : j < m) : (bytesOf bs m)[j]? = some (byteAt bs j) := by
 simp [bytesOf,h]
theorem bytesOf_length (bs : List Nat) (m : Nat) : (bytesOf bs m).length = m := by simp [bytesOf]
theorem pack_length (bs : List Nat) : (pack bs).length = (bs.length + 7) / 8 := bytesOf_length _ _
theorem byteAt_out {bs : List Nat} {j : Nat} (h : bs.length ≤ 8 * j) : byteAt bs j = 0 := by
 unfold byteAt
 rw [getD_out h,getD_out (show bs.length ≤ 8 * j + 1 by omega),getD_out (show bs.length ≤ 8 * j + 2 by omega),getD_out (show bs.length ≤ 8 * j + 3 by omega),getD_out (show bs.length ≤ 8 * j + 4 by omega),getD_out (show bs.length ≤ 8 * j + 5 by omega),getD_out (show bs.length ≤ 8 * j + 6 by omega),getD_out (show bs.length ≤ 8 * j + 7 by omega)]
theorem pack_getD (bs : List Nat) (j : Nat) : (pack bs).getD j 0 = byteAt bs j := by
 rw [List.getD_eq_getElem?_getD]
 by_cases h : j < (bs.length + 7) / 8
 ·rw [pack,bytesOf_get h]; rfl
 ·rw [List.getElem?_eq_none (by rw [pack_length]; omega),byteAt_out (by omega)]; rfl
theorem pack_push0 {bs : List Nat} {b : Nat} (h : bs.length % 8 = 0) : pack (bs ++ [b]) = pack bs ++ [b * 128] := by
 apply List.ext_getElem?
 intro j
 have hl : ((bs ++ [b]).length + 7) / 8 = (bs.length + 7) / 8 + 1 := by simp; omega
 by_cases hj : j < (bs.length + 7) / 8
 ·rw [List.getElem?_append_left (by rw [pack_length]; exact hj),pack,pack,hl,bytesOf_get (by omega),bytesOf_get hj,byteAt_push,if_neg (by omega)]
 ·by_cases hj2 : j = (bs.length + 7) / 8
  ·subst hj2
   rw [pack,hl,bytesOf_get (by omega),byteAt_push,if_pos (by omega),h,byteAt_out (by omega)]
   rw [List.getElem?_append_right (by rw [pack_length]; omega),pack_length]; simp
  ·rw [List.getElem?_eq_none (by rw [pack_length,hl]; omega),List.getElem?_eq_none (by rw [List.length_append,pack_length]; simp; omega)]
theorem pack_push1 {bs : List Nat} {b : Nat} (h : bs.length % 8 ≠ 0) : pack (bs ++ [b]) = (pack bs).set (bs.length / 8) (byteAt bs (bs.length / 8) + b * 2 ^ (7 - bs.length % 8)) := by
 apply List.ext_getElem?
 intro j
 have hl : ((bs ++ [b]).length + 7) / 8 = (bs.length + 7) / 8 := by simp; omega
 rw [List.getElem?_set,pack_length]
 by_cases hj : j < (bs.length + 7) / 8
 ·rw [pack,hl,bytesOf_get hj,byteAt_push]
  by_cases he : j = bs.length / 8
  ·subst he; rw [if_pos rfl,if_pos rfl,if_pos hj]
  ·rw [if_neg he,if_neg (Ne.symm he),pack,bytesOf_get hj]
 ·rw [List.getElem?_eq_none (by rw [pack_length,hl]; omega),if_neg (by omega),List.getElem?_eq_none (by rw [pack_length]; omega)]
def Trim (xs : List Nat) (m : Nat) : Prop := m ≤ xs.length ∧ (∀ j,m ≤ j → xs.getD j 0 = 0) ∧ (m = 0 ∨ xs.getD (m - 1) 0 ≠ 0)
def endAt (bs : List Nat) : Nat → Nat
 | 0 => 0
 | i + 1 => if bs.getD i 0 = 1 then i / 8 + 1 else endAt bs i
theorem endAt_le (bs : List Nat) : ∀ i,endAt bs i ≤ (i + 7) / 8
 | 0 => by simp [endAt]
 | i + 1 => by
  have := endAt_le bs i
  unfold endAt
  split <;> omega
theorem endAt_zero {bs : List Nat} (h : AreBits bs) : ∀ i k,k < i → 8 * endAt bs i ≤ k → bs.getD k 0 = 0
 | 0,k,hk,_ => by omega
 | i + 1,k,hk,he => by
  unfold endAt at he
  split at he
  ·omega
  ·rename_i hb
   by_cases hki : k = i
   ·subst hki; have := h.getD k; omega
   ·exact endAt_zero h i k (by omega) he
theorem endAt_last {bs : List Nat} : ∀ i,endAt bs i = 0 ∨ ∃ k,k < i ∧ bs.getD k 0 = 1 ∧ k / 8 = endAt bs i - 1
 | 0 => .inl rfl
 | i + 1 => by
  unfold endAt
  split
  ·rename_i hb
   exact .inr ⟨i,by omega,hb,by omega⟩
  ·rcases endAt_last i with h | ⟨k,h1,h2,h3⟩
   ·exact .inl h
   ·exact .inr ⟨k,by omega,h2,h3⟩
theorem byteAt_zero {bs : List Nat} {j : Nat} (h : ∀ i,i < 8 → bs.getD (8 * j + i) 0 = 0) : byteAt bs j = 0 := by
 unfold byteAt
 rw [show 8 * j = 8 * j + 0 from rfl,h 0 (by omega),h 1 (by omega),h 2 (by omega),h 3 (by omega),h 4 (by omega),h 5 (by omega),h 6 (by omega),h 7 (by omega)]
theorem trim_end {bs : List Nat} (h : AreBits bs) : Trim (pack bs) (endAt bs bs.length) := by
 refine ⟨by rw [pack_length]; exact endAt_le _ _,fun j hj => ?_,?_⟩
 ·rw [pack_getD]
  refine byteAt_zero fun i hi => ?_
  by_cases hk : 8 * j + i < bs.length
  ·exact endAt_zero h bs.length _ hk (by omega)
  ·exact getD_out (by omega)
 ·rcases endAt_last (bs := bs) bs.length with h0 | ⟨k,h1,h2,h3⟩
  ·exact .inl h0
  ·right
   rw [pack_getD]
   intro hz
   have := byteAt_bit h k
   rw [h3,hz] at this
   rw [h2] at this
   simp at this
def segOf (bs : List Nat) : List Nat := (pack bs).take (endAt bs bs.length)
theorem pack_lt {bs : List Nat} (h : AreBits bs) : ∀ x ∈ pack bs,x < 256 := by
 intro x hx
 simp only [pack,bytesOf,List.mem_map] at hx
 obtain ⟨j,_,rfl⟩ := hx
 exact byteAt_lt h j
set_option maxRecDepth 4000
section
variable {h : Heap} {R : Value → Heap → Prop} {e pb : Nat} {o : Value} {p out : List Nat} {low size : Nat} {begun : Bool} {a : AE}
theorem EP.setp (I : EP h e pb o p out low size begun) (p' : List Nat) (hl : p'.length = p.length) :
  EP (h.set pb (some ⟨false,nI p'⟩)) e pb o p' out low size begun ∧ EF h (h.set pb (some ⟨false,nI p'⟩)) e pb o o := by
 have hpb := blk?_lt I.pblk
 refine ⟨⟨by rw [blk?_set_ne (Ne.symm I.ne1),hl]; exact I.blk,blk?_set_eq hpb,I.own.of_blk fun id hid hb => by rw [blk?_set_ne (fun x => I.ne3 (by rw [x]; exact hid))]; exact hb,I.ne1,I.ne2,I.ne3⟩,
  ⟨by simp,fun id _ _ h2 _ => blk?_set_ne (Ne.symm h2),fun id hid => .inl hid⟩⟩
theorem put_tail (I : EP h e pb o p out low size begun) (hp : PsOk p) {c bit : Nat} (hc : c < p.length) (hb : bit < 2) :
  ∃ h',EP h' e pb o (p.set c (adaptP (p.getD c 0) bit)) out low size true ∧ EF h h' e pb o o ∧
   ∀ (R : Value → Heap → Prop) (K3 K4 K5 K6 K7 K8 K9 Ka Kb Kc Kd Ke Kf Kg Kh Ki Kj Kk Kl Km Kn Ko Kp Kq Kr Ks Kt Ku Kv Kw Kx Ky Kz J0 J1 J2 J3 J4 J5 J6 J7 J8 J9 Ja Jb Jc Jd Je Jf Jg Jh Ji Jj Jk Jl Jm Jn Jo Jp Jq Jr Js Jt Ju Jv Jw Jx Jy Jz Y0 Y1 Y2 Y3 Y4 Y5 Y6 Y7 Y8 Y9 Ya Yb Yc Yd Ye Yf Yg Yh Yi Yj Yk Yl Ym Yn Yo Yp Yq Yr Ys Yt Yu Yv Yw Yx Yy Yz Z0 Z1 Z2 Z3 Z4 Z5 Z6 Z7 Z8 Z9 : Value),R (.int .i64 0) h' → Ok tab R231 [.code (tlC 6 B231)] #[ptr e,.int .i64 (c : Nat),.int .i64 (bit : Nat),K3,K4,K5,K6,K7,K8,K9,Ka,Kb,Kc,Kd,Ke,Kf,Kg,Kh,Ki,Kj,Kk,Kl,Km,Kn,Ko,Kp,Kq,Kr,Ks,Kt,Ku,Kv,Kw,Kx,Ky,Kz,J0,J1,J2,J3,J4,J5,J6,J7,J8,J9,Ja,Jb,Jc,Jd,Je,Jf,Jg,Jh,Ji,Jj,Jk,Jl,Jm,Jn,Jo,Jp,Jq,Jr,Js,Jt,Ju,Jv,Jw,Jx,Jy,Jz,Y0,Y1,Y2,Y3,Y4,Y5,Y6,Y7,Y8,Y9,Ya,Yb,Yc,Yd,Ye,Yf,Yg,Yh,Yi,Yj,Yk,Yl,Ym,Yn,Yo,Yp,Yq,Yr,Ys,Yt,Yu,Yv,Yw,Yx,Yy,Yz,Z0,Z1,Z2,Z3,Z4,Z5,Z6,Z7,Z8,Z9] h R := by
 obtain ⟨I1,F1⟩ := I.set low size true
 obtain ⟨I2,F2⟩ := I1.setp (p.set c (adaptP (p.getD c 0) bit)) (by simp)
 refine ⟨_,I2,F1.trans F2,fun R K3 K4 K5 K6 K7 K8 K9 Ka Kb Kc Kd Ke Kf Kg Kh Ki Kj Kk Kl Km Kn Ko Kp Kq Kr Ks Kt Ku Kv Kw Kx Ky Kz J0 J1 J2 J3 J4 J5 J6 J7 J8 J9 Ja Jb Jc Jd Je Jf Jg Jh Ji Jj Jk Jl Jm Jn Jo Jp Jq Jr Js Jt Ju Jv Jw Jx Jy Jz Y0 Y1 Y2 Y3 Y4 Y5 Y6 Y7 Y8 Y9 Ya Yb Yc Yd Ye Yf Yg Yh Yi Yj Yk Yl Ym Yn Yo Yp Yq Yr Ys Yt Yu Yv Yw Yx Yy Yz Z0 Z1 Z2 Z3 Z4 Z5 Z6 Z7 Z8 Z9 hR => ?_⟩
 have hb1 := I.blk
 have ha := fun R => adapt_c (R := R) I1.blk I1.pblk I1.ne1 hc hp hb
 show Ok tab R231 [.code (.seq (nthC 6 B231) (.seq (nthC 7 B231) (tlC 8 B231)))] _ h R
 simp only [nthC,tlC,fstC,B231]
 simp [hb1,ha,fin231]
 exact hR
theorem put_c {c bit : Nat} (I : EA h e pb o out low a) (hc : c < a.p.length) (hb : bit < 2) (hol : out.length < 1000000000) :
  ∃ h' o' out' low',(∀ R,Ret tab 231 [ptr e,.int .i64 (c : Nat),.int .i64 (bit : Nat)] h R = R (.int .i64 0) h') ∧ EA h' e pb o' out' low' (a.put c bit) ∧ EF h h' e pb o o' ∧ out'.length ≤ out.length + 1 := by
 have key : ∀ R0 : Value → Heap → Prop,(∀ h' o' out' low',EA h' e pb o' out' low' (a.put c bit) → EF h h' e pb o o' → out'.length ≤ out.length + 1 → R0 (.int .i64 0) h') → Ret tab 231 [ptr e,.int .i64 (c : Nat),.int .i64 (bit : Nat)] h R0 := by
  intro R0 hR0
  have hE := I.ep
  have hlow := I.lt
  have hdig := I.dig
  obtain ⟨r1,r2⟩ := AE.split_rng I.ok hc
  have s2 := I.ok.s2
  have hok := AE.put_ok I.ok hc (bit := bit)
  have hval := fun H R (x : EP H e pb o a.p out low a.size a.begun) => evalid_c (R := R) x I.pos
  have hv := fun R => evalid_c (R := R) hE I.pos
  have hh := fun R => has_c (R := R) (c := c) hE.blk
  rw [decide_eq_true hc] at hh
  have hpo := I.ok.ps.getD hc
  have hsp := fun R => split_c (R := R) hE.blk hE.pblk hc (by have := hpo.2; omega) s2
  have hpl : (a.put c bit).p = a.p.set c (adaptP (a.p.getD c 0) bit) := by unfold AE.put; rfl
  have hblk := hE.blk
  have rest : ∀ (H : Heap) (o1 : Value) (out1 : List Nat) (low1 size1 : Nat),EP H e pb o1 a.p out1 low1 size1 a.begun → EF h H e pb o o1 → low1 < 4294967296 → 65536 ≤ size1 → size1 < 4294967296 → out1.length = out.length →
    (∀ ds2 size2,ds2 = (if size1 < 16777216 then out1 ++ dig4 low1 ++ [0] else out1 ++ dig4 low1) → size2 = (if size1 < 16777216 then size1 * 256 else size1) → (a.put c bit).ds = ds2 ∧ (a.put c bit).size = size2) →
    ∀ K3 K4 K5 K6 K7 K8 K9 Ka Kb Kc Kd Ke Kf Kg Kh Ki Kj Kk Kl Km Kn Ko Kp Kq Kr Ks Kt Ku Kv Kw Kx Ky Kz J0 J1 J2 J3 J4 J5 J6 J7 J8 J9 Ja Jb Jc Jd Je Jf Jg Jh Ji Jj Jk Jl Jm Jn Jo Jp Jq Jr Js Jt Ju Jv Jw Jx Jy Jz Y0 Y1 Y2 Y3 Y4 Y5 Y6 Y7 Y8 Y9 Ya Yb Yc Yd Ye Yf Yg Yh Yi Yj Yk Yl Ym Yn Yo Yp Yq Yr Ys Yt Yu Yv Yw Yx Yy Yz Z0 Z1 Z2 Z3 Z4 Z5 Z6 Z7 Z8 Z9 : Value,Ok tab R231 [.inLoop L231_0,.inBlock 0,.code (tlC 6 B231)] #[ptr e,.int .i64 (c : Nat),.int .i64 (bit : Nat),K3,K4,K5,K6,K7,K8,K9,Ka,Kb,Kc,Kd,Ke,Kf,Kg,Kh,Ki,Kj,Kk,Kl,Km,Kn,Ko,Kp,Kq,Kr,Ks,Kt,Ku,Kv,Kw,Kx,Ky,Kz,J0,J1,J2,J3,J4,J5,J6,J7,J8,J9,Ja,Jb,Jc,Jd,Je,Jf,Jg,Jh,Ji,Jj,Jk,Jl,Jm,Jn,Jo,Jp,Jq,Jr,Js,Jt,Ju,Jv,Jw,Jx,Jy,Jz,Y0,Y1,Y2,Y3,Y4,Y5,Y6,Y7,Y8,Y9,Ya,Yb,Yc,Yd,Ye,Yf,Yg,Yh,Yi,Yj,Yk,Yl,Ym,Yn,Yo,Yp,Yq,Yr,Ys,Yt,Yu,Yv,Yw,Yx,Yy,Yz,Z0,Z1,Z2,Z3,Z4,Z5,Z6,Z7,Z8,Z9] H R0 := by
   intro H o1 out1 low1 size1 I1 F1 hl1 hs1 hs2 hlen1 hds;intros
   obtain ⟨h2,o2,out2,low2,size2,I2,F2,hl2,hlen2,hds2,hsz2,hL⟩ := norm_c (v1 := .int .i64 (c : Nat)) (v2 := .int .i64 (bit : Nat)) I1 hl1 hs1 hs2 (by omega)
   obtain ⟨h3,I3,F3,hT⟩ := put_tail I2 I.ok.ps hc hb
   obtain ⟨d1,d2⟩ := hds _ _ hds2 hsz2
   refine hL _ _ _ _ _ _ _ _ _ _ _ _ _ _ _ _ _ _ _ _ _ _ _ _ _ _ _ _ _ _ _ _ _ _ _ _ _ _ _ _ _ _ _ _ _ _ _ _ _ _ _ _ _ _ _ _ _ _ _ _ _ _ _ _ _ _ _ _ _ _ _ _ _ _ _ _ _ _ _ _ _ _ _ _ _ _ _ _ _ _ _ _ _ _ _ _ _ _ _ _ _ _ _ _ _ _ _ _ _ _ _ _ _ _ _ _ fun K3 K4 K5 K6 K7 K8 K9 Ka Kb Kc Kd Ke Kf Kg Kh Ki Kj Kk Kl Km Kn Ko Kp Kq Kr Ks Kt Ku Kv Kw Kx Ky Kz J0 J1 J2 J3 J4 J5 J6 J7 J8 J9 Ja Jb Jc Jd Je Jf Jg Jh Ji Jj Jk Jl Jm Jn Jo Jp Jq Jr Js Jt Ju Jv Jw Jx Jy Jz Y0 Y1 Y2 Y3 Y4 Y5 Y6 Y7 Y8 Y9 Ya Yb Yc Yd Ye Yf Yg Yh Yi Yj Yk Yl Ym Yn Yo Yp Yq Yr Ys Yt Yu Yv Yw Yx Yy Yz Z0 Z1 Z2 Z3 Z4 Z5 Z6 Z7 Z8 Z9 => hT _ _ _ _ _ _ _ _ _ _ _ _ _ _ _ _ _ _ _ _ _ _ _ _ _ _ _ _ _ _ _ _ _ _ _ _ _ _ _ _ _ _ _ _ _ _ _ _ _ _ _ _ _ _ _ _ _ _ _ _ _ _ _ _ _ _ _ _ _ _ _ _ _ _ _ _ _ _ _ _ _ _ _ _ _ _ _ _ _ _ _ _ _ _ _ _ _ _ _ _ _ _ _ _ _ _ _ _ _ _ _ _ _ _ _ _ (hR0 h3 o2 out2 low2 ⟨?_,d1,hl2,hok,by rw [hpl]; simpa using I.pos⟩ ((F1.trans F2).trans F3) (by omega))
   rw [hpl,d2]
   exact I3
  rw [enter231,show B231 = .seq (nthC 0 B231) (.seq (nthC 1 B231) (.seq (nthC 2 B231) (.seq (nthC 3 B231) (.seq (nthC 4 B231) (.seq (nthC 5 B231) (tlC 6 B231)))))) from rfl]
  generalize hT6 : tlC 6 B231 = T6 at *
  simp only [nthC,tlC,fstC,B231]
  have hS : a.size / 4096 * a.p.getD c 0 = a.split c := rfl
  rw [hS] at hsp
  by_cases hb0 : bit = 0
  ·subst hb0
   obtain ⟨I1,F1⟩ := hE.set low (a.split c) a.begun
   have hfin := rest _ o out low (a.split c) I1 F1 I.lt r1 (by omega) rfl (by
    intro ds2 size2 e1 e2
    unfold AE.put AE.norm
    simp only [if_true]
    rw [e1,e2,← I.ds]
    split <;> exact ⟨rfl,rfl⟩)
   simp [k_guard,hv,hh,hsp,hblk]
   exact hfin ..
  ·obtain rfl : bit = 1 := by omega
   have w1 : IntKind.i64.wrap ((low : Int) + (a.split c : Int)) = ((low + a.split c : Nat) : Int) := wrapN (n := low + a.split c) (by omega)
   have w2 : IntKind.i64.wrap ((a.size : Int) - (a.split c : Int)) = ((a.size - a.split c : Nat) : Int) := by rw [wrapI (by omega) (by omega)]; omega
   have he := blk?_lt hblk
   have hse : ∀ x,blk? (h.set e x) e = x := fun x => blk?_set_eq he
   have hds := addD_low hdig I.lt (show a.split c < 4294967296 by omega)
   rw [← I.ds] at hds
   by_cases hcar : low + a.split c < 4294967296
   ·rw [if_pos hcar] at hds
    obtain ⟨I1,F1⟩ := hE.set (low + a.split c) (a.size - a.split c) a.begun
    have hfin := rest _ o out _ _ I1 F1 hcar (by omega) (by omega) rfl (by
     intro ds2 size2 e1 e2
     unfold AE.put AE.norm
     simp only [Nat.one_ne_zero,if_false]
     rw [e1,e2,hds]
     split <;> exact ⟨rfl,rfl⟩)
    have n1 : ¬ ((4294967295 : Int) < ((low + a.split c : Nat) : Int)) := by omega
    generalize ((low + a.split c : Nat) : Int) = L at *
    generalize ((a.size - a.split c : Nat) : Int) = S at *
    simp [k_guard,hv,hh,hsp,hblk,w1,w2,hse,n1]
    exact hfin ..
   ·rw [if_neg hcar] at hds
    obtain ⟨I1,F1⟩ := hE.set (low + a.split c - 4294967296) (a.size - a.split c) a.begun
    obtain ⟨h2,hcr,ho2,hl2,hk2⟩ := carry_c I1.own hdig (by omega)
    have I2 : EP h2 e pb o a.p (addD out 1).2 (low + a.split c - 4294967296) (a.size - a.split c) a.begun :=
     ⟨by rw [hk2 _ I1.ne2]; exact I1.blk,by rw [hk2 _ I1.ne3]; exact I1.pblk,by rw [addD_len]; exact ho2,I1.ne1,I1.ne2,I1.ne3⟩
    have F2 : EF h h2 e pb o o := ⟨by rw [hl2]; simp,fun id h1 h3 h4 h5 => by rw [hk2 id h5]; exact F1.same id h1 h3 h4 h5,fun id hid => .inl hid⟩
    have hfin := rest _ o _ _ _ I2 F2 (by omega) (by omega) (by omega) (addD_len _ _) (by
     intro ds2 size2 e1 e2
     unfold AE.put AE.norm
     simp only [Nat.one_ne_zero,if_false]
     rw [e1,e2,hds]
     split <;> exact ⟨rfl,rfl⟩)
    have n1 : ((4294967295 : Int) < ((low + a.split c : Nat) : Int)) := by omega
    have w3 : IntKind.i64.wrap (((low + a.split c : Nat) : Int) - 4294967296) = ((low + a.split c - 4294967296 : Nat) : Int) := by rw [wrapI (by omega) (by omega)]; omega
    generalize ((low + a.split c - 4294967296 : Nat) : Int) = L2 at *
    generalize ((low + a.split c : Nat) : Int) = L at *
    generalize ((a.size - a.split c : Nat) : Int) = S at *
    simp [k_guard,hv,hh,hsp,hblk,w1,w2,w3,hse,n1,hcr]
    exact hfin ..
 obtain ⟨v,h',ee,rfl,o',out',low',A,B,C⟩ := ret_ex (key (fun v h' => v = .int .i64 0 ∧ ∃ o' out' low',EA h' e pb o' out' low' (a.put c bit) ∧ EF h h' e pb o o' ∧ out'.length ≤ out.length + 1) (fun h' o' out' low' A B C => ⟨rfl,o',out',low',A,B,C⟩))
 exact ⟨h',o',out',low',ee,A,B,C⟩
end
theorem trim_spec : ∀ xs : List Nat,trim xs = xs.take (trim xs).length ∧ (∀ i,(trim xs).length ≤ i → xs.getD i 0 = 0) ∧ (∀ n,(trim xs).length = n + 1 → xs.getD n 0 ≠ 0)
 | [] => by simp [trim]
 | d :: xs => by
  obtain ⟨h1,h2,h3⟩ := trim_spec xs
  rw [trim]
  cases ht : trim xs with
  | nil =>
   rw [ht] at h1 h2
   simp only
   by_cases hd : d = 0
   ·rw [if_pos hd]
    refine ⟨by simp,fun i _ => ?_,fun n hn => by simp at hn⟩
    cases i with
    | zero => simpa using hd
    | succ i => simpa using h2 i (by simp)
   ·rw [if_neg hd]
    refine ⟨by simp,fun i hi => ?_,fun n hn => ?_⟩
    ·cases i with
     | zero => simp at hi
     | succ i => simpa using h2 i (by simp)
    ·simp at hn; subst hn; simpa using hd
  | cons x ys =>
   rw [ht] at h1 h2 h3
   simp only
   refine ⟨by simp at h1 ⊢; exact h1,fun i hi => ?_,fun n hn => ?_⟩
   ·cases i with
    | zero => simp at hi
    | succ i => simpa using h2 i (by simp at hi ⊢; omega)
   ·cases n with
    | zero => simp at hn
    | succ n => simpa using h3 n (by simp at hn ⊢; omega)
section
variable {h : Heap} {R : Value → Heap → Prop} {e pb : Nat} {o : Value} {p out : List Nat} {low size : Nat} {begun : Bool} {a : AE}
theorem esize_c (I : EA h e pb o out low a) (hl : out.length < 1000000000) : Ret tab 230 [ptr e] h R = R (.int .i64 ((if a.begun = true then a.ds.length else 0 : Nat) : Int)) h := by
 have h1 := I.ep.blk
 have hv := fun R => evalid_c (R := R) I.ep I.pos
 obtain ⟨oa,oc,ho⟩ := I.ep.own.sl.shape
 have hlen : a.ds.length = out.length + 4 := by rw [I.ds]; simp [dig4]
 have w1 : IntKind.i64.wrap ((out.length : Int) + 4) = (out.length : Int) + 4 := wrapN (n := out.length + 4) (by omega)
 rw [hlen]
 rw [ho] at h1
 rw [enter230,B230]
 cases hbg : a.begun with
 | false =>
  rw [hbg] at h1
  simp [k_guard,hv,h1,fin230]
 | true =>
  rw [hbg] at h1
  simp [k_guard,hv,h1,w1,fin230]
theorem restart_loop {q z : Nat} {cs : List Value} {n : Nat} (h1 : blk? h q = some ⟨false,.slice (some ⟨z,0,none⟩) n 1 :: cs⟩) (hz : z < h.length) (hne : q ≠ z) (hl : p.length = n) (hn : n < 1000000) {k : List RItem} {res : Prop}
  (hk : ∀ K1 K2 K3 K4 K5 K6 K7 K8 K9 Ka Kb Kc Kd Ke Kf Kg Kh : Value,Ok tab R84 k #[ptr q,K1,K2,K3,K4,K5,K6,K7,K8,K9,Ka,Kb,Kc,Kd,Ke,Kf,Kg,Kh] (h.set z (some ⟨false,nI (List.replicate n 2048)⟩)) R = res) :
  ∀ (m i : Nat) (K1 K2 K3 K4 K5 K6 K9 Ka Kb Kc Kd Ke Kf Kg Kh : Value),i + m = n →
   Ok tab R84 (.inLoop L84_0 :: .inBlock 0 :: k) #[ptr q,K1,K2,K3,K4,K5,K6,.int .i64 (n : Nat),.int .i64 (i : Nat),K9,Ka,Kb,Kc,Kd,Ke,Kf,Kg,Kh] (h.set z (some ⟨false,nI (List.replicate i 2048 ++ p.drop i)⟩)) R = res := by
 intro m
 induction m with
 | zero =>
  intro i;intros;rename_i him
  obtain rfl : i = n := by omega
  have hlt : ¬ ((i : Int) < (i : Int)) := by omega
  rw [List.drop_of_length_le (by omega),List.append_nil]
  rw [ok_round,l84_0,L84_0a,L84_0b]
  simp [hk]
 | succ m ih =>
  intro i;intros;rename_i him
  have hlt : ((i : Int) < n) := by omega
  have hin : i < n := by omega
  have hw : IntKind.i64.wrap ((i : Int) + 1) = ((i + 1 : Nat) : Int) := wrapN (n := i + 1) (by omega)
  have ih' := fun K1 K2 K3 K4 K5 K6 K9 Ka Kb Kc Kd Ke Kf Kg Kh => ih (i + 1) K1 K2 K3 K4 K5 K6 K9 Ka Kb Kc Kd Ke Kf Kg Kh (by omega)
  have hq : ∀ x,blk? (h.set z x) q = some ⟨false,.slice (some ⟨z,0,none⟩) n 1 :: cs⟩ := fun x => by rw [blk?_set_ne (Ne.symm hne)]; exact h1
  have hzz : ∀ x,blk? (h.set z x) z = x := fun x => blk?_set_eq hz
  have hst := nI_set (xs := List.replicate i 2048 ++ p.drop i) (i := i) (v := 2048)
  have hlist : (List.replicate i 2048 ++ p.drop i).set i 2048 = List.replicate (i + 1) 2048 ++ p.drop (i + 1) := by
   rw [List.set_append_right _ _ (by simp),List.length_replicate,Nat.sub_self,List.drop_eq_getElem_cons (show i < p.length by omega),List.set_cons_zero,List.replicate_succ',List.append_assoc]; rfl
  rw [hlist] at hst
  have hcl : i + 1 ≤ (nI (List.replicate i 2048 ++ p.drop i)).length := by rw [nI_len]; simp; omega
  have hst' : (nI (List.replicate i 2048 ++ p.drop i)).set i (.int .i64 2048) = nI (List.replicate (i + 1) 2048 ++ p.drop (i + 1)) := hst
  generalize nI (List.replicate i 2048 ++ p.drop i) = C at *
  generalize nI (List.replicate (i + 1) 2048 ++ p.drop (i + 1)) = C2 at *
  generalize ((i + 1 : Nat) : Int) = i1 at *
  rw [ok_round,l84_0,L84_0a,L84_0b]
  simp [hlt,hin,hq,hzz,hcl,hst',hw,ih']
theorem restart_c {q z : Nat} {cs : List Value} (h1 : blk? h q = some ⟨false,.slice (some ⟨z,0,none⟩) p.length 1 :: cs⟩) (h2 : blk? h z = some ⟨false,nI p⟩) (hne : q ≠ z) (hn : p.length < 1000000) :
  Ret tab 84 [ptr q] h R = R (.tuple #[]) (h.set z (some ⟨false,nI (List.replicate p.length 2048)⟩)) := by
 have hz := blk?_lt h2
 have e0 : h.set z (some ⟨false,nI (List.replicate 0 2048 ++ p.drop 0)⟩) = h := by
  rw [List.replicate_zero,List.nil_append,List.drop_zero]
  unfold blk? at h2
  split at h2
  ·rename_i b hx
   injection h2 with h2
   subst h2
   obtain ⟨hlt,hg⟩ := List.getElem?_eq_some_iff.1 hx
   rw [← hg,List.set_getElem_self]
  ·cases h2
 have hL := fun K1 K2 K3 K4 K5 K6 K9 Ka Kb Kc Kd Ke Kf Kg Kh => restart_loop (R := R) h1 hz hne rfl hn (k := []) (res := R (.tuple #[]) (h.set z (some ⟨false,nI (List.replicate p.length 2048)⟩))) (fun K1 K2 K3 K4 K5 K6 K7 K8 K9 Ka Kb Kc Kd Ke Kf Kg Kh => by simp [fin84]) p.length 0 K1 K2 K3 K4 K5 K6 K9 Ka Kb Kc Kd Ke Kf Kg Kh (by omega)
 rw [e0] at hL
 simp only [Int.cast_ofNat_Int] at hL
 rw [enter84,B84]
 simp [h1,hL]
theorem ereset_c (I : EA h e pb o out low a) (hn : a.p.length < 1000000) :
  ∃ h',(∀ R,Ret tab 41 [ptr e] h R = R (.tuple #[]) h') ∧ EA h' e pb o out low { a with p := AE.base a.p.length } ∧ EF h h' e pb o o := by
 obtain ⟨I1,F1⟩ := I.ep.setp (AE.base a.p.length) (by simp [AE.base])
 refine ⟨_,fun R => ?_,⟨I1,I.ds,I.lt,⟨base_ok _,I.ok.dig,I.ok.len,I.ok.s1,I.ok.s2,I.ok.top⟩,by simpa [AE.base] using I.pos⟩,F1⟩
 have hv := fun R => evalid_c (R := R) I.ep I.pos
 have hr := fun R => restart_c (R := R) I.ep.blk I.ep.pblk I.ep.ne1 hn
 have hb := I.ep.blk
 rw [enter41,B41]
 simp [hv,hb,hr,fin41,AE.base]
theorem repL_nI : ∀ n : Nat,repL [.int .i64 0] n = nI (List.replicate n 0)
 | 0 => rfl
 | n + 1 => by rw [repL,repL_nI n,List.replicate_succ]; rfl
theorem newModels_c {n : Nat} (h1 : 1 ≤ n) (h2 : n ≤ 64) : ∃ h',(∀ R,Ret tab 81 [.int .i64 (n : Nat)] h R = R (.agg #[.slice (some ⟨h.length + 1,0,none⟩) n 1]) h') ∧ blk? h' (h.length + 1) = some ⟨false,nI (AE.base n)⟩ ∧
  h'.length = h.length + 3 ∧ ∀ id,id < h.length → blk? h' id = blk? h id := by
 generalize hH : h ++ [some (⟨false,[.slice none 0 0]⟩ : Blk),some ⟨false,nI (List.replicate n 0)⟩,some ⟨false,[.slice (some ⟨h.length + 1,0,none⟩) n 1]⟩] = H
 have b0 : blk? H h.length = some ⟨false,[.slice none 0 0]⟩ := by rw [← hH,app_len]; rfl
 have b1 : blk? H (h.length + 1) = some ⟨false,nI (List.replicate n 0)⟩ := by rw [← hH,app_add]; rfl
 have b2 : blk? H (h.length + 2) = some ⟨false,[.slice (some ⟨h.length + 1,0,none⟩) n 1]⟩ := by rw [← hH,app_add]; rfl
 have hlen : H.length = h.length + 3 := by rw [← hH]; simp
 have hr := fun R => restart_c (h := H) (R := R) (q := h.length + 2) (z := h.length + 1) (p := List.replicate n 0) (cs := []) (by simpa using b2) b1 (by omega) (by simp; omega)
 simp only [List.length_replicate] at hr
 have l2 : blk? (H.set (h.length + 1) (some ⟨false,nI (List.replicate n 2048)⟩)) (h.length + 2) = some ⟨false,[.slice (some ⟨h.length + 1,0,none⟩) n 1]⟩ := by rw [blk?_set_ne (by omega)]; exact b2
 have l0 : blk? (H.set (h.length + 1) (some ⟨false,nI (List.replicate n 2048)⟩)) h.length = some ⟨false,[.slice none 0 0]⟩ := by rw [blk?_set_ne (by omega)]; exact b0
 refine ⟨(H.set (h.length + 1) (some ⟨false,nI (List.replicate n 2048)⟩)).set h.length (some ⟨false,[.slice (some ⟨h.length + 1,0,none⟩) n 1]⟩),fun R => ?_,?_,by simp [hlen],fun id hid => ?_⟩
 ·have hroom : ((n : Nat) : Int) ≤ (roomCells : Int) := by unfold roomCells; omega
  have hs0 : h.length < (H.set (h.length + 1) (some ⟨false,nI (List.replicate n 2048)⟩)).length := by simp [hlen]
  have l3 : ∀ x,blk? ((H.set (h.length + 1) (some ⟨false,nI (List.replicate n 2048)⟩)).set h.length x) h.length = x := fun x => blk?_set_eq hs0
  have hset : (h ++ [some (⟨false,[.slice none 0 0]⟩ : Blk),some ⟨false,nI (List.replicate n 0)⟩,some ⟨false,[.slice none 0 0]⟩]).set (h.length + 2) (some ⟨false,[.slice (some ⟨h.length + 1,0,none⟩) n 1]⟩) = H := by rw [← hH,app_setk]; rfl
  have b3 : blk? (h ++ [some (⟨false,[.slice none 0 0]⟩ : Blk),some ⟨false,nI (List.replicate n 0)⟩,some ⟨false,[.slice none 0 0]⟩]) (h.length + 2) = some ⟨false,[.slice none 0 0]⟩ := by rw [app_add]; rfl
  rw [enter81,B81]
  simp [hroom,repL_nI,b3,hset,hr,l2,l0]
  simp [finishV,R81,allSome,resV,l3]
 ·rw [blk?_set_ne (by omega),blk?_set_eq (by omega)]; rfl
 ·rw [blk?_set_ne (by omega),blk?_set_ne (by omega),← hH]; exact app_lt hid
theorem newEnc_c {n : Nat} (h1 : 1 ≤ n) (h2 : n ≤ 64) : ∃ h' e pb,(∀ R,Ret tab 36 [.int .i64 (n : Nat)] h R = R (.tuple #[ptr e,.int .i64 0]) h') ∧ EA h' e pb (.slice none 0 0) [] 0 (AE.begin (AE.base n)) ∧ h.length ≤ e ∧ h.length ≤ pb ∧
  h.length ≤ h'.length ∧ ∀ id,id < h.length → blk? h' id = blk? h id := by
 obtain ⟨H,hm,hb,hl,hk⟩ := newModels_c (h := h) h1 h2
 refine ⟨H ++ [some ⟨false,[.slice (some ⟨h.length + 1,0,none⟩) n 1,.slice none 0 0,.int .i64 0,.int .i64 4294967295,.bool false]⟩],H.length,h.length + 1,fun R => ?_,⟨⟨?_,?_,OwnS.nil _ _,by omega,by simp [sid],by simp [sid]⟩,rfl,by omega,begin_ok (base_ok n),by simp [AE.begin,AE.base]; omega⟩,by omega,by omega,by simp; omega,fun id hid => by rw [blk?_push_lt (by omega)]; exact hk id hid⟩
 ·have n1 : ¬ ((n : Int) < 1) := by omega
  have n2 : ¬ ((64 : Int) < n) := by omega
  rw [enter36,B36]
  simp [k_guard,n1,n2,hm,fin36]
 ·rw [blk?_push_eq]; simp [AE.begin,AE.base]
 ·rw [blk?_push_lt (by omega)]; exact hb
end
theorem shlM {q k : Nat} (hk : k ≤ 32) (hq : q * 2 ^ k < 9223372036854775808) : shlI .i64 (q : Int) (k : Int) = ((q * 2 ^ k : Nat) : Int) := by
 unfold shlI
 rw [Int.toNat_natCast]
 have : min k IntKind.i64.bits = k := by show min k 64 = k; omega
 rw [this]
 have e2 : ((q : Int) * 2 ^ k) = ((q * 2 ^ k : Nat) : Int) := by simp
 rw [e2]; exact wrapN hq
section
variable {h : Heap} {R : Value → Heap → Prop} {e pb : Nat} {o : Value} {p out : List Nat} {low size : Nat} {begun : Bool} {a : AE}
theorem choose_step {low M k v : Nat} (hl : low < 4294967296) (hk : k ≤ 24) (hM : M = 2 ^ k) (hv : v = (low + (M - 1)) / M * M) :
  ∃ p q z : Int,shlI .i64 1 (k : Int) = (M : Int) ∧ IntKind.i64.wrap ((low : Int) + (M : Int)) = p ∧ IntKind.i64.wrap (p - 1) = q ∧
  shrI .i64 q (k : Int) = z ∧ shlI .i64 z (k : Int) = (v : Int) := by
 have hp : 2 ^ k ≤ 2 ^ 24 := Nat.pow_le_pow_right (by decide) hk
 have hp1 : 1 ≤ 2 ^ k := Nat.one_le_two_pow
 have hdm := Nat.div_mul_le_self (low + (M - 1)) M
 refine ⟨((low + M : Nat) : Int),((low + (M - 1) : Nat) : Int),(((low + (M - 1)) / M : Nat) : Int),?_,wrapN (by omega),by rw [wrapI (by omega) (by omega)]; omega,?_,?_⟩
 ·have := shlM (q := 1) (k := k) (by omega) (by omega)
  rw [Nat.one_mul,← hM] at this
  exact this
 ·rw [hM]; exact shrN (i := .i64) (show k ≤ 64 by omega)
 ·have := shlM (q := (low + (M - 1)) / M) (k := k) (by omega) (by rw [← hM]; omega)
  rw [← hM,← hv] at this
  exact this
theorem choose_aux {low size : Nat} (hl : low < 4294967296) (hs : size < 4294967296) (v1 v2 v3 : Nat) (hv1 : v1 = (low + 16777215) / 16777216 * 16777216) (hv2 : v2 = (low + 65535) / 65536 * 65536) (hv3 : v3 = (low + 255) / 256 * 256)
  (r : Nat × Bool) (hr : r = if low = 0 then (0,false) else if low + size > 4294967296 then (0,true) else if v1 < low + size then (v1,false) else if v2 < low + size then (v2,false) else if v3 < low + size then (v3,false) else (low,false)) :
  Ret tab 232 [.int .i64 (low : Nat),.int .i64 (size : Nat)] h R = R (.tuple #[.int .i64 (r.1 : Nat),.bool r.2]) h := by
 rw [enter232,B232,hr]
 clear hr
 have ws : IntKind.i64.wrap ((low : Int) + (size : Int)) = ((low + size : Nat) : Int) := wrapN (by omega)
 obtain ⟨p1,q1,z1,a1,a2,a3,a4,a5⟩ := choose_step (k := 24) (M := 16777216) hl (by omega) (by decide) hv1
 obtain ⟨p2,q2,z2,b1,b2,b3,b4,b5⟩ := choose_step (k := 16) (M := 65536) hl (by omega) (by decide) hv2
 obtain ⟨p3,q3,z3,c1,c2,c3,c4,c5⟩ := choose_step (k := 8) (M := 256) hl (by omega) (by decide) hv3
 obtain ⟨p4,q4,z4,d1,d2,d3,d4,d5⟩ := choose_step (k := 0) (M := 1) (v := low) hl (by omega) (by decide) (by simp)
 clear hv1 hv2 hv3
 simp only [Int.cast_ofNat_Int] at a1 a2 a3 a4 a5 b1 b2 b3 b4 b5 c1 c2 c3 c4 c5 d1 d2 d3 d4 d5
 have u1 : IntKind.u64.wrap 16 = 16 := by decide
 have u2 : IntKind.u64.wrap 8 = 8 := by decide
 have u3 : IntKind.u64.wrap 0 = 0 := by decide
 by_cases h0 : low = 0
 ·subst h0
  simp [fin232]
 have h0' : ((low : Int) == 0) = false := by simp; omega
 rw [if_neg h0]
 by_cases h1 : low + size > 4294967296
 ·have h1' : (4294967296 : Int) < ((low + size : Nat) : Int) := by omega
  rw [if_pos h1]
  generalize ((low + size : Nat) : Int) = ls at *
  simp [h0',h0,ws,h1',fin232]
 have h1' : ¬ (4294967296 : Int) < ((low + size : Nat) : Int) := by omega
 rw [if_neg h1]
 have e1 : (v1 : Int) < ((low + size : Nat) : Int) ↔ v1 < low + size := Int.ofNat_lt
 have e2 : (v2 : Int) < ((low + size : Nat) : Int) ↔ v2 < low + size := Int.ofNat_lt
 have e3 : (v3 : Int) < ((low + size : Nat) : Int) ↔ v3 < low + size := Int.ofNat_lt
 generalize ((low + size : Nat) : Int) = ls at *
 by_cases k1 : v1 < low + size
 ·rw [if_pos k1]
  have k1' : (v1 : Int) < ls := e1.2 k1
  simp [h0',h0,ws,h1']
  rw [ok_round,l232_0,L232_0a,L232_0b]
  simp [k_guard,ws,a1,a2,a3,a4,a5,k1',fin232]
 rw [if_neg k1]
 have k1' : ¬ (v1 : Int) < ls := fun x => k1 (e1.1 x)
 by_cases k2 : v2 < low + size
 ·rw [if_pos k2]
  have k2' : (v2 : Int) < ls := e2.2 k2
  simp [h0',h0,ws,h1']
  rw [ok_round,l232_0,L232_0a,L232_0b]
  simp [k_guard,ws,a1,a2,a3,a4,a5,k1',u1]
  rw [ok_round,l232_0,L232_0a,L232_0b]
  simp [k_guard,ws,b1,b2,b3,b4,b5,k2',fin232]
 rw [if_neg k2]
 have k2' : ¬ (v2 : Int) < ls := fun x => k2 (e2.1 x)
 by_cases k3 : v3 < low + size
 ·rw [if_pos k3]
  have k3' : (v3 : Int) < ls := e3.2 k3
  simp [h0',h0,ws,h1']
  rw [ok_round,l232_0,L232_0a,L232_0b]
  simp [k_guard,ws,a1,a2,a3,a4,a5,k1',u1]
  rw [ok_round,l232_0,L232_0a,L232_0b]
  simp [k_guard,ws,b1,b2,b3,b4,b5,k2',u2]
  rw [ok_round,l232_0,L232_0a,L232_0b]
  simp [k_guard,ws,c1,c2,c3,c4,c5,k3',fin232]
 rw [if_neg k3]
 have k3' : ¬ (v3 : Int) < ls := fun x => k3 (e3.1 x)
 simp [h0',h0,ws,h1']
 rw [ok_round,l232_0,L232_0a,L232_0b]
 simp [k_guard,ws,a1,a2,a3,a4,a5,k1',u1]
 rw [ok_round,l232_0,L232_0a,L232_0b]
 simp [k_guard,ws,b1,b2,b3,b4,b5,k2',u2]
 rw [ok_round,l232_0,L232_0a,L232_0b]
 simp [k_guard,ws,c1,c2,c3,c4,c5,k3',u3]
 rw [ok_round,l232_0,L232_0a,L232_0b]
 by_cases k4 : (low : Int) < ls
 ·simp [k_guard,ws,d1,d2,d3,d4,d5,k4,fin232]
 ·simp [k_guard,ws,d1,d2,d3,d4,d5,k4,fin232]
theorem choose_c {low size : Nat} (hl : low < 4294967296) (hs : size < 4294967296) : Ret tab 232 [.int .i64 (low : Nat),.int .i64 (size : Nat)] h R = R (.tuple #[.int .i64 ((chooseP low size).1 : Nat),.bool (chooseP low size).2]) h :=
 choose_aux hl hs _ _ _ rfl rfl rfl _ rfl
theorem copy_c {t : Value} {n : Nat} {cs : List Value} (ht : Sl h 1 t n cs) (hn : n ≤ roomCells) :
  ∃ b H,appendV h 1 1 (.slice none 0 0) t = some (b,H) ∧ OwnS H 1 b n cs ∧ h.length ≤ H.length ∧ (∀ id,id < h.length → blk? H id = blk? h id) ∧ ∀ id,sid b = some id → h.length ≤ id := by
 by_cases h0 : n = 0
 ·subst h0
  have hc : cs = [] := List.eq_nil_of_length_eq_zero (by have := ht.1; omega)
  subst hc
  refine ⟨.slice none 0 0,h,?_,OwnS.nil _ _,Nat.le_refl _,fun _ _ => rfl,fun id hid => by simp [sid] at hid⟩
  unfold appendV
  simp [ht.lenV,ht.firstC]
 ·obtain ⟨H,e,hb,hl,hk⟩ := own_append (OwnS.nil h 1) ht (bytes := 1) (by omega) (by omega) h0
  refine ⟨_,H,e,⟨by have := ht.1; omega,.inr ⟨h.length,by simp,by simpa using hb⟩⟩,by omega,fun id hid => hk id hid (by simp [sid]),fun id hid => by simp [sid] at hid; omega⟩
theorem trim_loop {id : Nat} {xs : List Nat} (hb : blk? h id = some ⟨false,nU xs⟩) (hl : xs.length < 1000000000) {k : List RItem} {res : Prop} {v0 : Value}
  (hk : ∀ K1 K2 K4 K5 K6 K7 K8 K9 Ka Kb Kc Kd Ke Kf Kg Kh Ki Kj Kk Kl Km Kn Ko Kp Kq Kr Ks Kt Ku Kv Kw Kx Ky Kz J0 J1 J2 J3 J4 J5 J6 J7 J8 J9 Ja Jb Jc Jd Je Jf Jg Jh Ji Jj Jk Jl Jm Jn Jo Jp Jq Jr Js Jt Ju Jv Jw Jx Jy Jz Y0 : Value,Ok tab R229 k #[v0,K1,K2,.slice (some ⟨id,0,none⟩) (trim xs).length 1,K4,K5,K6,K7,K8,K9,Ka,Kb,Kc,Kd,Ke,Kf,Kg,Kh,Ki,Kj,Kk,Kl,Km,Kn,Ko,Kp,Kq,Kr,Ks,Kt,Ku,Kv,Kw,Kx,Ky,Kz,J0,J1,J2,J3,J4,J5,J6,J7,J8,J9,Ja,Jb,Jc,Jd,Je,Jf,Jg,Jh,Ji,Jj,Jk,Jl,Jm,Jn,Jo,Jp,Jq,Jr,Js,Jt,Ju,Jv,Jw,Jx,Jy,Jz,Y0] h R = res) :
  ∀ (d m : Nat) (K1 K2 K4 K5 K6 K7 K8 K9 Ka Kb Kc Kd Ke Kf Kg Kh Ki Kj Kk Kl Km Kn Ko Kp Kq Kr Ks Kt Ku Kv Kw Kx Ky Kz J0 J1 J2 J3 J4 J5 J6 J7 J8 J9 Ja Jb Jc Jd Je Jf Jg Jh Ji Jj Jk Jl Jm Jn Jo Jp Jq Jr Js Jt Ju Jv Jw Jx Jy Jz Y0 : Value),m = (trim xs).length + d → m ≤ xs.length →
   Ok tab R229 (.inLoop L229_0 :: .inBlock 0 :: k) #[v0,K1,K2,.slice (some ⟨id,0,none⟩) m 1,K4,K5,K6,K7,K8,K9,Ka,Kb,Kc,Kd,Ke,Kf,Kg,Kh,Ki,Kj,Kk,Kl,Km,Kn,Ko,Kp,Kq,Kr,Ks,Kt,Ku,Kv,Kw,Kx,Ky,Kz,J0,J1,J2,J3,J4,J5,J6,J7,J8,J9,Ja,Jb,Jc,Jd,Je,Jf,Jg,Jh,Ji,Jj,Jk,Jl,Jm,Jn,Jo,Jp,Jq,Jr,Js,Jt,Ju,Jv,Jw,Jx,Jy,Jz,Y0] h R = res := by
 obtain ⟨t1,t2,t3⟩ := trim_spec xs
 intro d
 induction d with
 | zero =>
  intro m;intros;rename_i hm hi
  obtain rfl : m = (trim xs).length := by omega
  rw [ok_round,l229_0,L229_0a,L229_0b]
  cases hx : (trim xs).length with
  | zero =>
   rw [hx] at hk
   simp [k_guard,hk]
  | succ n =>
   rw [hx] at hk hi
   have w1 : IntKind.i64.wrap (n : Int) = (n : Int) := wrapN (by omega)
   have hg := nU_get (xs := xs) (i := n) (by omega)
   have hnz := t3 n hx
   have hnz' : (((xs.getD n 0 : Nat) : Int) == 0) = false := beq_eq_false_iff_ne.2 (by omega)
   have hnl : n < n + 1 := by omega
   have hpos : (0 : Int) < (n : Int) + 1 := by omega
   have hlt : (n : Int) < (n : Int) + 1 := by omega
   have hnz2 : ¬ ((xs.getD n 0 : Nat) : Int) = 0 := by omega
   generalize ((xs.getD n 0 : Nat) : Int) = x at *
   generalize nU xs = C at *
   have hk' := fun K1 K2 K4 K5 K6 K7 K8 K9 Ka Kb Kc Kd Ke Kf Kg Kh Ki Kj Kk Kl Km Kn Ko Kp Kq Kr Ks Kt Ku Kv Kw Kx Ky Kz J0 J1 J2 J3 J4 J5 J6 J7 J8 J9 Ja Jb Jc Jd Je Jf Jg Jh Ji Jj Jk Jl Jm Jn Jo Jp Jq Jr Js Jt Ju Jv Jw Jx Jy Jz Y0 => hk K1 K2 K4 K5 K6 K7 K8 K9 Ka Kb Kc Kd Ke Kf Kg Kh Ki Kj Kk Kl Km Kn Ko Kp Kq Kr Ks Kt Ku Kv Kw Kx Ky Kz J0 J1 J2 J3 J4 J5 J6 J7 J8 J9 Ja Jb Jc Jd Je Jf Jg Jh Ji Jj Jk Jl Jm Jn Jo Jp Jq Jr Js Jt Ju Jv Jw Jx Jy Jz Y0
   simp [k_guard,hpos,w1,hlt,hb,hg,hnz',hnz2,hk']
 | succ d ih =>
  intro m;intros;rename_i hm hi
  obtain ⟨n,rfl⟩ : ∃ n,m = n + 1 := ⟨m - 1,by omega⟩
  have w1 : IntKind.i64.wrap (n : Int) = (n : Int) := wrapN (by omega)
  have hg := nU_get (xs := xs) (i := n) (by omega)
  rw [t2 n (by omega)] at hg
  have hg' : (nU xs)[n]? = some (.int .u8 0) := hg
  have hpos : (0 : Int) < (n : Int) + 1 := by omega
  have hlt : (n : Int) < (n : Int) + 1 := by omega
  have ih' := fun K1 K2 K4 K5 K6 K7 K8 K9 Ka Kb Kc Kd Ke Kf Kg Kh Ki Kj Kk Kl Km Kn Ko Kp Kq Kr Ks Kt Ku Kv Kw Kx Ky Kz J0 J1 J2 J3 J4 J5 J6 J7 J8 J9 Ja Jb Jc Jd Je Jf Jg Jh Ji Jj Jk Jl Jm Jn Jo Jp Jq Jr Js Jt Ju Jv Jw Jx Jy Jz Y0 => ih n K1 K2 K4 K5 K6 K7 K8 K9 Ka Kb Kc Kd Ke Kf Kg Kh Ki Kj Kk Kl Km Kn Ko Kp Kq Kr Ks Kt Ku Kv Kw Kx Ky Kz J0 J1 J2 J3 J4 J5 J6 J7 J8 J9 Ja Jb Jc Jd Je Jf Jg Jh Ji Jj Jk Jl Jm Jn Jo Jp Jq Jr Js Jt Ju Jv Jw Jx Jy Jz Y0 (by omega) (by omega)
  have hsl : ∀ c,sliceV 1 (.slice (some ⟨id,0,none⟩) (n + 1) 1) none (some (.int .i64 (n : Int))) = some c ↔ c = .slice (some ⟨id,0,none⟩) n 1 := by
   intro c
   have : (n : Int) ≤ (n : Int) + 1 := by omega
   simp [sliceV,bndO,bnd,this]
   exact ⟨Eq.symm,Eq.symm⟩
  have hsl' := (hsl _).2 rfl
  generalize nU xs = C at *
  rw [ok_round,l229_0,L229_0a,L229_0b]
  simp [k_guard,hpos,w1,hlt,hb,hg',hsl',ih']
theorem eterm_c (I : EA h e pb o out low a) (hl : out.length < 100000000) :
  ∃ h' s,(∀ R,Ret tab 229 [ptr e] h R = R s h') ∧ EA h' e pb (.slice none 0 0) [] 0 (AE.begin a.p) ∧ EF h h' e pb o (.slice none 0 0) ∧
   Sl h' 1 s (trim (termP out low a.size)).length (nU (trim (termP out low a.size))) ∧ (∀ id,sid s = some id → h.length ≤ id ∧ id < h'.length) := by
 have hE := I.ep
 have hblk := hE.blk
 have hdig := I.dig
 have s2 := I.ok.s2
 obtain ⟨b,H1,e1,o1,l1,k1,g1⟩ := copy_c hE.own.sl (by unfold roomCells; omega)
 have hv := fun R => evalid_c (R := R) hE I.pos
 have hch := fun H R => choose_c (h := H) (R := R) I.lt s2
 have step2 : ∃ H2,(∀ (R : Value → Heap → Prop),(chooseP low a.size).2 = true → Ret tab 233 [b] H1 R = R (.tuple #[]) H2) ∧ ((chooseP low a.size).2 = false → H2 = H1) ∧ OwnS H2 1 b out.length (nU (if (chooseP low a.size).2 = true then (addD out 1).2 else out)) ∧ H2.length = H1.length ∧ ∀ id,sid b ≠ some id → blk? H2 id = blk? H1 id := by
  cases hov : (chooseP low a.size).2 with
  | false => exact ⟨H1,fun _ h => by simp at h,fun _ => rfl,by simpa using o1,rfl,fun _ _ => rfl⟩
  | true =>
   obtain ⟨H2,c1,c2,c3,c4⟩ := carry_c o1 hdig (by omega)
   exact ⟨H2,fun R _ => c1 R,fun h => by simp at h,by simpa using c2,c3,c4⟩
 obtain ⟨H2,c1,c2,c3,c4,c5⟩ := step2
 have hcv : (chooseP low a.size).1 < 4294967296 := by
  have hlow := I.lt
  unfold chooseP
  split
  ·simp
  ·split
   ·simp
   ·split
    ·simp only; omega
    ·split
     ·simp only; omega
     ·split
      ·simp only; omega
      ·simp only; omega
 have hterm : termP out low a.size = (if (chooseP low a.size).2 = true then (addD out 1).2 else out) ++ dig4 (chooseP low a.size).1 := rfl
 generalize (chooseP low a.size).1 = v at *
 generalize hov : (chooseP low a.size).2 = over at *
 have hol : (if over = true then (addD out 1).2 else out).length = out.length := by split <;> simp [addD_len]
 generalize (if over = true then (addD out 1).2 else out) = out2 at *
 have q24 : IntKind.u8.wrap (shrI .i64 (v : Int) 24) = ((v / 16777216 : Nat) : Int) := by
  have := shrN (i := .i64) (a := v) (b := 24) (by decide)
  simp only [Int.cast_ofNat_Int] at this
  rw [this,show (2 : Nat) ^ 24 = 16777216 from rfl,IntKind.wrap_u8]; omega
 have q16 : IntKind.u8.wrap (shrI .i64 (v : Int) 16) = ((v / 65536 % 256 : Nat) : Int) := by
  have := shrN (i := .i64) (a := v) (b := 16) (by decide)
  simp only [Int.cast_ofNat_Int] at this
  rw [this,show (2 : Nat) ^ 16 = 65536 from rfl,IntKind.wrap_u8]; omega
 have q8 : IntKind.u8.wrap (shrI .i64 (v : Int) 8) = ((v / 256 % 256 : Nat) : Int) := by
  have := shrN (i := .i64) (a := v) (b := 8) (by decide)
  simp only [Int.cast_ofNat_Int] at this
  rw [this,show (2 : Nat) ^ 8 = 256 from rfl,IntKind.wrap_u8]; omega
 have q0 : IntKind.u8.wrap (v : Int) = ((v % 256 : Nat) : Int) := by rw [IntKind.wrap_u8]; omega
 have hfour : [.int .u8 ((v / 16777216 : Nat) : Int),.int .u8 ((v / 65536 % 256 : Nat) : Int),.int .u8 ((v / 256 % 256 : Nat) : Int),.int .u8 ((v % 256 : Nat) : Int)] = nU (dig4 v) := rfl
 have ht4 : Sl (H2 ++ [some ⟨false,nU (dig4 v)⟩]) 1 (.slice (some ⟨H2.length,0,none⟩) 4 1) 4 (nU (dig4 v)) := ⟨rfl,.inr ⟨H2.length,0,rfl,.inr ⟨_,blk?_push_eq,by simp [nU,dig4],by simp [nU,dig4]⟩⟩⟩
 have c3' : OwnS (H2 ++ [some ⟨false,nU (dig4 v)⟩]) 1 b out.length (nU out2) := c3.of_blk fun id hid hb => by rw [blk?_push_lt (blk?_lt hb)]; exact hb
 obtain ⟨H3,e3,b3,l3,k3⟩ := own_append c3' ht4 (bytes := 1) (by unfold roomCells; omega) (by omega) (by omega)
 have hlp : (H2 ++ [some (⟨false,nU (dig4 v)⟩ : Blk)]).length = H2.length + 1 := by simp
 rw [hlp] at e3 b3 l3 k3
 have happ : nU out2 ++ nU (dig4 v) = nU (out2 ++ dig4 v) := by simp [nU]
 rw [happ] at b3
 rw [← hterm] at b3
 have hxl : (termP out low a.size).length = out.length + 4 := by rw [hterm]; simp [hol,dig4]
 rw [hterm] at hxl
 generalize hX : termP out low a.size = X at *
 have hXl : X.length = out.length + 4 := by rw [hterm]; exact hxl
 have he := blk?_lt hblk
 have keep : ∀ id,id < h.length → blk? H3 id = blk? h id := fun id hid => by
  rw [k3 id (by omega) (fun x => by have := g1 id x; omega),blk?_push_lt (by omega),c5 id (fun x => by have := g1 id x; omega),k1 id hid]
 have hb3e : blk? H3 e = some ⟨false,[.slice (some ⟨pb,0,none⟩) a.p.length 1,o,.int .i64 (low : Nat),.int .i64 (a.size : Nat),.bool a.begun]⟩ := by rw [keep e he]; exact hblk
 have hpbl := blk?_lt hE.pblk
 have heH3 : e < H3.length := by omega
 generalize hfinH : H3.set e (some ⟨false,[.slice (some ⟨pb,0,none⟩) a.p.length 1,.slice none 0 0,.int .i64 0,.int .i64 4294967295,.bool false]⟩) = H4
 have hb4 : blk? H4 e = some ⟨false,[.slice (some ⟨pb,0,none⟩) a.p.length 1,.slice none 0 0,.int .i64 0,.int .i64 4294967295,.bool false]⟩ := by rw [← hfinH]; exact blk?_set_eq heH3
 have hne4 : ∀ id,id ≠ e → blk? H4 id = blk? H3 id := fun id hid => by rw [← hfinH]; exact blk?_set_ne (Ne.symm hid)
 have hl4 : H4.length = H3.length := by rw [← hfinH]; simp
 refine ⟨H4,.slice (some ⟨H2.length + 1,0,none⟩) (trim X).length 1,fun R => ?_,⟨⟨hb4,by rw [hne4 pb (Ne.symm hE.ne1),keep pb hpbl]; exact hE.pblk,OwnS.nil _ _,hE.ne1,by simp [sid],by simp [sid]⟩,rfl,by omega,begin_ok I.ok.ps,I.pos⟩,
  ⟨by omega,fun id i1 i2 i3 i4 => by rw [hne4 id i2,keep id i1],fun id hid => by simp [sid] at hid⟩,?_,fun id hid => by simp [sid] at hid; omega⟩
 ·have hL := fun K1 K2 K4 K5 K6 K7 K8 K9 Ka Kb Kc Kd Ke Kf Kg Kh Ki Kj Kk Kl Km Kn Ko Kp Kq Kr Ks Kt Ku Kv Kw Kx Ky Kz J0 J1 J2 J3 J4 J5 J6 J7 J8 J9 Ja Jb Jc Jd Je Jf Jg Jh Ji Jj Jk Jl Jm Jn Jo Jp Jq Jr Js Jt Ju Jv Jw Jx Jy Jz Y0 => trim_loop (R := R) (h := H3) (id := H2.length + 1) (xs := X) b3 (by omega) (v0 := ptr e) (k := [.code (tlC 7 B229)]) (res := R (.slice (some ⟨H2.length + 1,0,none⟩) (trim X).length 1) H4)
   (fun K1 K2 K4 K5 K6 K7 K8 K9 Ka Kb Kc Kd Ke Kf Kg Kh Ki Kj Kk Kl Km Kn Ko Kp Kq Kr Ks Kt Ku Kv Kw Kx Ky Kz J0 J1 J2 J3 J4 J5 J6 J7 J8 J9 Ja Jb Jc Jd Je Jf Jg Jh Ji Jj Jk Jl Jm Jn Jo Jp Jq Jr Js Jt Ju Jv Jw Jx Jy Jz Y0 => by
    have hse : ∀ x,blk? (H3.set e x) e = x := fun x => blk?_set_eq heH3
    show Ok tab R229 [.code (.seq (nthC 7 B229) (tlC 8 B229))] _ H3 R = _
    simp only [nthC,tlC,fstC,B229]
    simp [hb3e,hse,hfinH,fin229]) (X.length - (trim X).length) X.length K1 K2 K4 K5 K6 K7 K8 K9 Ka Kb Kc Kd Ke Kf Kg Kh Ki Kj Kk Kl Km Kn Ko Kp Kq Kr Ks Kt Ku Kv Kw Kx Ky Kz J0 J1 J2 J3 J4 J5 J6 J7 J8 J9 Ja Jb Jc Jd Je Jf Jg Jh Ji Jj Jk Jl Jm Jn Jo Jp Jq Jr Js Jt Ju Jv Jw Jx Jy Jz Y0 (by have := trim_len X; omega) (Nat.le_refl _)
  rw [hXl] at hL
  rw [enter229,show B229 = .seq (nthC 0 B229) (.seq (nthC 1 B229) (.seq (nthC 2 B229) (.seq (nthC 3 B229) (.seq (nthC 4 B229) (.seq (nthC 5 B229) (.seq (nthC 6 B229) (tlC 7 B229))))))) from rfl]
  generalize hT7 : tlC 7 B229 = T7 at *
  simp only [nthC,tlC,fstC,B229]
  have kb1 : blk? H1 e = some ⟨false,[.slice (some ⟨pb,0,none⟩) a.p.length 1,o,.int .i64 (low : Nat),.int .i64 (a.size : Nat),.bool a.begun]⟩ := by rw [k1 e he]; exact hblk
  generalize ((v / 16777216 : Nat) : Int) = y1 at *
  generalize ((v / 65536 % 256 : Nat) : Int) = y2 at *
  generalize ((v / 256 % 256 : Nat) : Int) = y3 at *
  generalize ((v % 256 : Nat) : Int) = y4 at *
  cases over with
  | false =>
   have c2' := c2 rfl
   subst c2'
   simp [repL,hv,hblk,e1,kb1,hch,q24,q16,q8,q0,hfour,e3,hL]
  | true =>
   have c1' := fun R => c1 R rfl
   simp [repL,hv,hblk,e1,kb1,hch,c1',q24,q16,q8,q0,hfour,e3,hL]
 ·obtain ⟨t1,_,_⟩ := trim_spec X
  have htl := trim_len X
  refine ⟨by rw [nU_len,Nat.mul_one],.inr ⟨H2.length + 1,0,rfl,.inr ⟨⟨false,nU X⟩,by rw [hne4 _ (by omega)]; exact b3,by simp only [nU_len]; omega,?_⟩⟩⟩
  simp only [List.drop_zero,Nat.mul_one]
  rw [nU,← List.map_take,← t1]; rfl
end
structure PW (h : Heap) (p : Nat) (s : Value) (bs : List Nat) : Prop where
 blk : blk? h p = some ⟨false,[.bool true,s,.int .i64 bs.length]⟩
 own : OwnS h 1 s (pack bs).length (nU (pack bs))
 ne : sid s ≠ some p
 bits : AreBits bs
structure Fr (h h' : Heap) (p : Nat) (s s' : Value) : Prop where
 len : h.length ≤ h'.length
 same : ∀ id,id < h.length → id ≠ p → sid s ≠ some id → blk? h' id = blk? h id
 fresh : ∀ id,sid s' = some id → sid s = some id ∨ (h.length ≤ id ∧ id < h'.length)
theorem new15 (h : Heap) : ∃ h',(∀ R : Value → Heap → Prop,Ret tab 40 [] h R = R (ptr h.length) h') ∧ PW h' h.length (.slice none 0 0) [] ∧ h'.length = h.length + 1 ∧ ∀ id,id < h.length → blk? h' id = blk? h id := by
 refine ⟨h ++ [some ⟨false,[.bool true,.slice none 0 0,.int .i64 0]⟩],fun R => ?_,⟨blk?_push_eq,OwnS.nil _ _,by simp [sid],fun b hb => by cases hb⟩,by simp,fun id hid => blk?_push_lt hid⟩
 rw [enter40,B40]
 simp [fin40]
theorem size22 {h : Heap} {p : Nat} {s : Value} {bs : List Nat} (hb : PW h p s bs) (R : Value → Heap → Prop) :
  Ret tab 238 [ptr p] h R = R (.int .i64 ((bs.length + 7) / 8 : Nat)) h := by
 have hp := hb.blk
 obtain ⟨a,c,rfl⟩ := hb.own.sl.shape
 rw [enter238,B238]
 simp [k_guard,hp,fin238,pack_length]
theorem or_bit : ∀ (x : Fin 256) (j : Fin 8) (b : Fin 2),x.1 % 2 ^ (j.1 + 1) = 0 →
  orI .u8 (x.1 : Int) (IntKind.u8.wrap (shlI .i64 (b.1 : Int) (j.1 : Int))) = ((x.1 + b.1 * 2 ^ j.1 : Nat) : Int) := by decide +kernel
theorem put48_on {h : Heap} {p id : Nat} {xs : List Nat} {n b : Nat} (hp : blk? h p = some ⟨false,[.bool true,.slice (some ⟨id,0,none⟩) xs.length 1,.int .i64 n]⟩) (hid : blk? h id = some ⟨false,nU xs⟩) (hne : p ≠ id)
  (hi : n / 8 < xs.length) (hx : xs[n / 8] < 256) (hz : xs[n / 8] % 2 ^ (8 - n % 8) = 0) (hb : b ≤ 1) (hn : n < 1000000) {ys : List Nat} (hy : xs.set (n / 8) (xs[n / 8] + b * 2 ^ (7 - n % 8)) = ys) (K2 K3 K4 K5 K6 K7 K8 K9 Ka Kb Kc Kd Ke Kf Kg Kh Ki Kj Kk Kl Km Kn Ko Kp Kq Kr Ks Kt Ku Kv Kw Kx Ky Kz J0 J1 J2 J3 J4 J5 J6 J7 J8 J9 Ja Jb Jc : Value) (R : Value → Heap → Prop) :
  Ok tab R244 [.code (tlC 1 B244)] #[ptr p,.int .i64 b,K2,K3,K4,K5,K6,K7,K8,K9,Ka,Kb,Kc,Kd,Ke,Kf,Kg,Kh,Ki,Kj,Kk,Kl,Km,Kn,Ko,Kp,Kq,Kr,Ks,Kt,Ku,Kv,Kw,Kx,Ky,Kz,J0,J1,J2,J3,J4,J5,J6,J7,J8,J9,Ja,Jb,Jc] h R =
   R (.tuple #[]) ((h.set id (some ⟨false,nU ys⟩)).set p (some ⟨false,[.bool true,.slice (some ⟨id,0,none⟩) xs.length 1,.int .i64 ((n : Int) + 1)]⟩)) := by
 simp only [tlC,B244]
 have hw : IntKind.i64.wrap ((n : Int) + 1) = (n : Int) + 1 := wrapN (n := n + 1) (by omega)
 have hq : IntKind.i64.wrap ((n : Int) / 8) = (n : Int) / 8 := wrapN (n := n / 8) (by omega)
 have h2 : (0 : Int) ≤ (n : Int) / 8 ∧ (n : Int) / 8 < xs.length := by omega
 have h3 : ((n : Int) / 8).toNat = n / 8 := by omega
 have h5 : IntKind.u64.wrap (IntKind.i64.wrap (7 - (n : Int).tmod 8)) = ((7 - n % 8 : Nat) : Int) := by
  rw [show (n : Int).tmod 8 = ((n % 8 : Nat) : Int) from rfl,wrapI (by omega) (by omega),IntKind.wrap_u64]; omega
 have h6 : ¬ ((7 - n % 8 : Nat) : Int) < 0 := by omega
 have hlp := blk?_lt hp
 have hli := blk?_lt hid
 have h7 := or_bit ⟨xs[n / 8],hx⟩ ⟨7 - n % 8,by omega⟩ ⟨b,by omega⟩ (by simp only; rw [show 7 - n % 8 + 1 = 8 - n % 8 by omega]; exact hz)
 simp only at h7
 have hg : (nU xs)[n / 8]? = some (.int .u8 xs[n / 8]) := by simp [nU,hi]
 have hlen : (nU xs).length = xs.length := by simp [nU]
 have hset : ∀ y : Nat,(nU xs).set (n / 8) (.int .u8 y) = nU (xs.set (n / 8) y) := fun y => by simp [nU,List.map_set]
 have h8 : n / 8 + 1 ≤ xs.length := hi
 generalize xs[n / 8] + b * 2 ^ (7 - n % 8) = y at h7 hy
 simp [hp,hid,hlp,hli,hw,hq,h2,h3,h5,h6,h7,h8,hg,hlen,hset,blk?_set_eq,blk?_set_ne hne,blk?_set_ne (Ne.symm hne),fin244,hy]
theorem pack_byte {bs : List Nat} (hi : bs.length / 8 < (pack bs).length) : (pack bs)[bs.length / 8] = byteAt bs (bs.length / 8) := by
 have := pack_getD bs (bs.length / 8)
 rw [List.getD_eq_getElem?_getD,List.getElem?_eq_getElem hi] at this
 exact this
theorem put48 {h : Heap} {p : Nat} {s : Value} {bs : List Nat} {b : Nat} (hw : PW h p s bs) (hb : b ≤ 1) (hl : bs.length < 1000000) :
  ∃ s' h',(∀ R : Value → Heap → Prop,Ret tab 244 [ptr p,.int .i64 b] h R = R (.tuple #[]) h') ∧ PW h' p s' (bs ++ [b]) ∧ Fr h h' p s s' := by
 obtain ⟨hp,ho,hne,hbits⟩ := hw
 have hlp := blk?_lt hp
 have hpl := pack_length bs
 by_cases h8 : bs.length % 8 = 0
 ·-- a byte more
  have h0 : ((bs.length : Int).tmod 8 == 0) = true := by
   rw [show (bs.length : Int).tmod 8 = ((bs.length % 8 : Nat) : Int) from rfl,h8]; rfl
  have hsl : Sl (h ++ [some ⟨false,[.int .u8 0]⟩]) 1 (.slice (some ⟨h.length,0,none⟩) 1 1) 1 [.int .u8 0] :=
   ⟨by simp,.inr ⟨h.length,0,rfl,.inr ⟨_,blk?_push_eq,by simp,by simp⟩⟩⟩
  have ho' : OwnS (h ++ [some ⟨false,[.int .u8 0]⟩]) 1 s (pack bs).length (nU (pack bs)) := ho.of_blk fun id _ hb => blk?_push hb
  obtain ⟨H,ha,hK,hHl,hHs⟩ := own_append (bytes := 1) ho' hsl (by unfold roomCells; omega) (by omega) (by omega)
  simp only [List.length_append,List.length_singleton] at ha hK hHl hHs
  have hHp : blk? H p = some ⟨false,[.bool true,s,.int .i64 bs.length]⟩ := by
   rw [hHs p (by omega) hne,blk?_push_lt hlp]; exact hp
  have hlpH := blk?_lt hHp
  have hlen1 : (pack bs ++ [0]).length = (pack bs).length + 1 := by simp
  have hq : bs.length / 8 = (pack bs).length := by omega
  have hys : (pack bs ++ [0]).set (bs.length / 8) ((pack bs ++ [0])[bs.length / 8]'(by omega) + b * 2 ^ (7 - bs.length % 8)) = pack (bs ++ [b]) := by
   rw [pack_push0 h8,h8]
   simp [hq]
  have hlen2 : (pack (bs ++ [b])).length = (pack bs).length + 1 := by rw [pack_push0 h8]; simp
  generalize hH1 : H.set p (some ⟨false,[.bool true,.slice (some ⟨h.length + 1,0,none⟩) ((pack bs).length + 1) 1,.int .i64 bs.length]⟩) = H1
  have hH1l : H1.length = h.length + 2 := by rw [← hH1]; simp [hHl]
  have hon := put48_on (h := H1) (p := p) (id := h.length + 1) (xs := pack bs ++ [0]) (n := bs.length) (b := b)
   (by rw [← hH1,blk?_set_eq hlpH,hlen1]) (by rw [← hH1,blk?_set_ne (by omega),hK]; simp [nU]) (by omega) (by omega) (by simp [hq]) (by simp [hq]) hb hl hys
  refine ⟨.slice (some ⟨h.length + 1,0,none⟩) ((pack bs).length + 1) 1,(H1.set (h.length + 1) (some ⟨false,nU (pack (bs ++ [b]))⟩)).set p (some ⟨false,[.bool true,.slice (some ⟨h.length + 1,0,none⟩) ((pack bs).length + 1) 1,.int .i64 ((bs.length : Int) + 1)]⟩),fun R => ?_,⟨?_,?_,?_,hbits.push hb⟩,⟨?_,?_,?_⟩⟩
  ·rw [enter244,show B244 = .seq (nthC 0 B244) (tlC 1 B244) from rfl,s_seq]
   generalize hT : tlC 1 B244 = tl
   simp only [nthC,tlC,fstC,B244]
   simp [hp,h0,ha,hHp,hlpH,hH1,repL]
   rw [← hT,hon,hlen1]
  ·rw [blk?_set_eq (by simp; omega)]; simp
  ·refine ⟨by simp [nU],.inr ⟨h.length + 1,by rw [hlen2],?_⟩⟩
   rw [blk?_set_ne (by omega),blk?_set_eq (by omega)]
  ·simp [sid]; omega
  ·simp; omega
  ·intro id hid hidp hids
   rw [blk?_set_ne (Ne.symm hidp),blk?_set_ne (by omega),← hH1,blk?_set_ne (Ne.symm hidp),hHs id (by omega) hids,blk?_push_lt hid]
  ·intro id hid
   simp [sid] at hid
   exact .inr (by simp; omega)
 ·-- the byte goes on
  obtain ⟨id,rfl,hid⟩ := ho.ne_nil (by omega)
  have h0 : ((bs.length : Int).tmod 8 == 0) = false := by
   rw [show (bs.length : Int).tmod 8 = ((bs.length % 8 : Nat) : Int) from rfl]
   simp; omega
  have hq : bs.length / 8 < (pack bs).length := by omega
  have hne' : p ≠ id := fun e => hne (by rw [e]; rfl)
  have hby := pack_byte hq
  have hon := put48_on (p := p) (id := id) (xs := pack bs) (n := bs.length) (b := b) hp hid hne' hq (by rw [hby]; exact byteAt_lt hbits _) (by rw [hby]; exact byteAt_mod bs) hb hl (ys := pack (bs ++ [b])) (by rw [hby,pack_push1 h8])
  have hlen2 : (pack (bs ++ [b])).length = (pack bs).length := by rw [pack_push1 h8]; simp
  have hli := blk?_lt hid
  refine ⟨.slice (some ⟨id,0,none⟩) (pack bs).length 1,(h.set id (some ⟨false,nU (pack (bs ++ [b]))⟩)).set p (some ⟨false,[.bool true,.slice (some ⟨id,0,none⟩) (pack bs).length 1,.int .i64 ((bs.length : Int) + 1)]⟩),fun R => ?_,⟨?_,?_,?_,hbits.push hb⟩,⟨?_,?_,?_⟩⟩
  ·rw [enter244,show B244 = .seq (nthC 0 B244) (tlC 1 B244) from rfl,s_seq]
   generalize hT : tlC 1 B244 = tl
   simp only [nthC,tlC,fstC,B244]
   simp [hp,h0]
   rw [← hT,hon]
  ·rw [blk?_set_eq (by simp; omega)]; simp
  ·refine ⟨by simp [nU],.inr ⟨id,by rw [hlen2],?_⟩⟩
   rw [blk?_set_ne (by omega),blk?_set_eq (by omega)]
  ·exact hne
  ·simp
  ·intro j hj hjp hjs
   rw [blk?_set_ne (Ne.symm hjp),blk?_set_ne (fun e => hjs (by rw [e]; rfl))]
  ·intro j hj
   exact .inl hj
theorem put20 {h : Heap} {p : Nat} {s : Value} {bs : List Nat} {b : Nat} (hw : PW h p s bs) (hb : b ≤ 1) (hl : bs.length < 1000000) :
  ∃ s' h',(∀ R : Value → Heap → Prop,Ret tab 243 [ptr p,.int .i64 b] h R = R (.int .i64 0) h') ∧ PW h' p s' (bs ++ [b]) ∧ Fr h h' p s s' := by
 obtain ⟨s',h',e,w,f⟩ := put48 hw hb hl
 refine ⟨s',h',fun R => ?_,w,f⟩
 have hp := hw.blk
 rw [enter243,B243]
 have : b = 0 ∨ b = 1 := by omega
 rcases this with rfl | rfl <;> simp at e <;> simp [k_guard,hp,fin243,e]
theorem loop18 {h : Heap} {id e p : Nat} {xs : List Nat} (hid : blk? h id = some ⟨false,nU xs⟩) (ht : Trim xs e) (hl : xs.length < 1000000) {k : List RItem} {R : Value → Heap → Prop} {X : Prop}
  (hk : ∀ (K1 K2 K4 K5 K6 K7 K8 K9 Ka Kb Kc Kd Ke Kf Kg Kh Ki Kj Kk Kl Km Kn Ko Kp Kq Kr Ks Kt Ku Kv Kw Kx Ky Kz J0 J1 J2 J3 J4 J5 J6 J7 J8 : Value),(Ok tab R242 k #[ptr p,K1,K2,.slice (some ⟨id,0,none⟩) e 1,K4,K5,K6,K7,K8,K9,Ka,Kb,Kc,Kd,Ke,Kf,Kg,Kh,Ki,Kj,Kk,Kl,Km,Kn,Ko,Kp,Kq,Kr,Ks,Kt,Ku,Kv,Kw,Kx,Ky,Kz,J0,J1,J2,J3,J4,J5,J6,J7,J8] h R ↔ X)) :
  ∀ (d m : Nat) (K1 K2 K4 K5 K6 K7 K8 K9 Ka Kb Kc Kd Ke Kf Kg Kh Ki Kj Kk Kl Km Kn Ko Kp Kq Kr Ks Kt Ku Kv Kw Kx Ky Kz J0 J1 J2 J3 J4 J5 J6 J7 J8 : Value),m = e + d → m ≤ xs.length → (Ok tab R242 (.inLoop L242_0 :: .inBlock 0 :: k) #[ptr p,K1,K2,.slice (some ⟨id,0,none⟩) m 1,K4,K5,K6,K7,K8,K9,Ka,Kb,Kc,Kd,Ke,Kf,Kg,Kh,Ki,Kj,Kk,Kl,Km,Kn,Ko,Kp,Kq,Kr,Ks,Kt,Ku,Kv,Kw,Kx,Ky,Kz,J0,J1,J2,J3,J4,J5,J6,J7,J8] h R ↔ X) := by
 intro d
 have hw : ∀ m : Nat,0 < m → m ≤ xs.length → IntKind.i64.wrap ((m : Int) - 1) = ((m - 1 : Nat) : Int) := fun m h0 h1 => by rw [wrapI (by omega) (by omega)]; omega
 have hg : ∀ m : Nat,m < xs.length → (nU xs)[m]? = some (.int .u8 (xs.getD m 0 : Nat)) := fun m hm => by
  simp [nU,hm]
 induction d with
 | zero =>
  intro m;intros;rename_i hm hi
  obtain rfl : m = e := by omega
  rw [ok_round,l242_0,L242_0a,L242_0b]
  rcases Nat.eq_zero_or_pos m with h0 | h0
  ·subst h0
   simp [k_guard]
   apply hk
  ·have h1 : (0 : Int) < m := by omega
   have h2 : (0 : Int) ≤ ((m - 1 : Nat) : Int) ∧ ((m - 1 : Nat) : Int) < m := by omega
   have h3 := ht.2.2.resolve_left (by omega)
   have h4 : (((xs.getD (m - 1) 0 : Nat) : Int) == 0) = false := by simpa using h3
   generalize hv : ((xs.getD (m - 1) 0 : Nat) : Int) = v at h4
   have hg' := hg (m - 1) (by omega)
   rw [hv] at hg'
   simp [k_guard,h0,h1,hw m h0 hi,h2,hid,hg',h4]
   apply hk
 | succ d ih =>
  intro m;intros;rename_i hm hi
  rw [ok_round,l242_0,L242_0a,L242_0b]
  have h0 : 0 < m := by omega
  have h1 : (0 : Int) < m := by omega
  have h2 : (0 : Int) ≤ ((m - 1 : Nat) : Int) ∧ ((m - 1 : Nat) : Int) < m := by omega
  have h3 := ht.2.1 (m - 1) (by omega)
  have hg' := hg (m - 1) (by omega)
  rw [h3] at hg'
  have h5 : ((m - 1 : Nat) : Int) ≤ (m : Int) := by omega
  simp [k_guard,h0,h1,hw m h0 hi,h2,hid,hg',sliceV,bndO,bnd,h5]
  exact ih (m - 1) _ _ _ _ _ _ _ _ _ _ _ _ _ _ _ _ _ _ _ _ _ _ _ _ _ _ _ _ _ _ _ _ _ _ _ _ _ _ _ _ _ _ _ (by omega) (by omega)
theorem term18 {h : Heap} {p : Nat} {s : Value} {bs : List Nat} (hw : PW h p s bs) (hl : bs.length < 1000000) :
  ∃ t h',(∀ R : Value → Heap → Prop,Ret tab 242 [ptr p] h R = R t h') ∧ Sl h' 1 t (segOf bs).length (nU (segOf bs)) ∧ PW h' p (.slice none 0 0) [] ∧ h'.length = h.length ∧ (∀ id,id ≠ p → blk? h' id = blk? h id) ∧ (∀ id,sid t = some id → sid s = some id) := by
 obtain ⟨hp,ho,hne,hbits⟩ := hw
 have hlp := blk?_lt hp
 have hpl := pack_length bs
 have hsl : (segOf bs).length = endAt bs bs.length := by
  rw [segOf,List.length_take]; have := (trim_end hbits).1; omega
 rcases ho.2 with ⟨rfl,h0⟩ | ⟨id,rfl,hid⟩
 ·-- nothing was written
  have he : (segOf bs).length = 0 := by rw [hsl]; have := (trim_end hbits).1; omega
  have he' : segOf bs = [] := List.eq_nil_of_length_eq_zero he
  refine ⟨.slice none 0 0,h.set p (some ⟨false,[.bool true,.slice none 0 0,.int .i64 0]⟩),fun R => ?_,?_,⟨?_,OwnS.nil _ _,by simp [sid],fun b hb => by cases hb⟩,by simp,fun id hid => blk?_set_ne (Ne.symm hid),fun id h => h⟩
  ·rw [enter242,B242]
   simp [k_guard,hp]
   rw [ok_round,l242_0,L242_0a,L242_0b]
   simp [k_guard,hp,hlp,blk?_set_eq,fin242]
  ·rw [he']; exact (OwnS.nil _ _).sl
  ·rw [blk?_set_eq hlp]; rfl
 ·have hne' : p ≠ id := fun e => hne (by rw [e]; rfl)
  refine ⟨.slice (some ⟨id,0,none⟩) (endAt bs bs.length) 1,h.set p (some ⟨false,[.bool true,.slice none 0 0,.int .i64 0]⟩),fun R => ?_,?_,⟨?_,OwnS.nil _ _,by simp [sid],fun b hb => by cases hb⟩,by simp,fun id hid => blk?_set_ne (Ne.symm hid),fun id h => h⟩
  ·rw [enter242,B242]
   simp [k_guard,hp]
   have ht := trim_end hbits
   refine loop18 (p := p) (e := endAt bs bs.length) hid ht (by omega) ?_ ((pack bs).length - endAt bs bs.length) (pack bs).length _ _ _ _ _ _ _ _ _ _ _ _ _ _ _ _ _ _ _ _ _ _ _ _ _ _ _ _ _ _ _ _ _ _ _ _ _ _ _ _ _ _ _ (by have := ht.1; omega) (Nat.le_refl _)
   intros
   simp [hp,hlp,blk?_set_eq,fin242]
  ·refine ⟨by simp [nU],.inr ⟨id,0,by rw [hsl],.inr ⟨⟨false,nU (pack bs)⟩,by rw [blk?_set_ne hne']; exact hid,?_,?_⟩⟩⟩
   ·have := (trim_end hbits).1
    show 0 + (segOf bs).length * 1 ≤ (nU (pack bs)).length
    simp [nU]; omega
   ·rw [List.drop_zero,Nat.mul_one,hsl]
    show List.take (endAt bs bs.length) (nU (pack bs)) = nU ((pack bs).take (endAt bs bs.length))
    simp [nU,List.map_take]
  ·rw [blk?_set_eq hlp]; rfl
structure Cell where
 v : Int
 s : Bool
 t : Bool
 r : Bool
def Cell.zero : Cell := ⟨0,false,false,false⟩
def Cell.enc (c : Cell) : List Value := [.int .i64 c.v,.bool c.s,.bool c.t,.bool c.r]
def encC : List Cell → List Value
 | [] => []
 | c :: r => c.enc ++ encC r
theorem encC_len : ∀ l : List Cell,(encC l).length = l.length * 4
 | [] => rfl
 | c :: r => by rw [encC,List.length_append,encC_len r]; simp [Cell.enc]; omega
theorem encC_get : ∀ (l : List Cell) (i j : Nat),j < 4 → (encC l)[i * 4 + j]? = (l[i]?).bind fun c => c.enc[j]?
 | [],i,j,_ => by simp [encC]
 | c :: r,0,j,hj => by
  rw [encC,List.getElem?_append_left (by simp [Cell.enc]; omega)]; simp
 | c :: r,i + 1,j,hj => by
  rw [encC,List.getElem?_append_right (by simp [Cell.enc]; omega)]
  have := encC_get r i j hj
  rw [show (i + 1) * 4 + j - c.enc.length = i * 4 + j by simp [Cell.enc]; omega,this]
  simp
theorem encC_drop : ∀ (l : List Cell) (i : Nat),(h : i < l.length) → ((encC l).drop (i * 4)).take 4 = l[i].enc
 | [],i,h => by simp at h
 | c :: r,0,_ => by simp [encC,Cell.enc]
 | c :: r,i + 1,h => by
  rw [encC,show (i + 1) * 4 = c.enc.length + i * 4 by simp [Cell.enc]; omega,List.drop_length_add_append]
  simpa using encC_drop r i (by simpa using h)
theorem encC_set : ∀ (l : List Cell) (i : Nat) (c : Cell),i < l.length → encC (l.set i c) = writeAt (encC l) (i * 4) c.enc
 | [],i,c,h => by simp at h
 | x :: r,0,c,_ => by simp [encC,Cell.enc]
 | x :: r,i + 1,c,h => by
  have ih := encC_set r i c (by simpa using h)
  rw [List.set_cons_succ,encC,ih,encC]
  rw [writeAt_eq _ _ _ (by rw [encC_len]; simp [Cell.enc]; simp at h; omega),writeAt_eq _ _ _ (by rw [List.length_append,encC_len]; simp [Cell.enc]; simp at h; omega)]
  rw [show (i + 1) * 4 = x.enc.length + i * 4 by simp [Cell.enc]; omega,List.take_length_add_append,show x.enc.length + i * 4 + c.enc.length = x.enc.length + (i * 4 + c.enc.length) by omega,List.drop_length_add_append]
  simp
theorem encC_noAddr (n : Nat) : ∀ l : List Cell,belowL n (encC l) = true
 | [] => by simp [encC]
 | c :: r => by simp [encC,Cell.enc,encC_noAddr n r]
theorem set_self {l : List Value} {i : Nat} {v : Value} (h : l[i]? = some v) : l.set i v = l := by
 obtain ⟨hi,rfl⟩ := List.getElem?_eq_some_iff.1 h
 simp
theorem encC_set1 {l : List Cell} {i : Nat} (h : i < l.length) {v : Int} : (encC l).set (i * 4) (.int .i64 v) = encC (l.set i { l[i] with v := v }) := by
 have g := encC_get l i
 have h0 : l[i]? = some l[i] := List.getElem?_eq_getElem h
 rw [encC_set _ _ _ h]
 simp only [Cell.enc,write_cons,write_nil]
 have g1 : (encC l)[i * 4 + 1]? = some (.bool l[i].s) := by rw [g 1 (by omega),h0]; rfl
 have g2 : (encC l)[i * 4 + 2]? = some (.bool l[i].t) := by rw [g 2 (by omega),h0]; rfl
 have g3 : (encC l)[i * 4 + 3]? = some (.bool l[i].r) := by rw [g 3 (by omega),h0]; rfl
 rw [set_self (l := (encC l).set (i * 4) _) (by rw [List.getElem?_set_ne (by omega)]; exact g1)]
 rw [set_self (l := (encC l).set (i * 4) _) (by rw [List.getElem?_set_ne (by omega)]; exact g2)]
 rw [set_self (l := (encC l).set (i * 4) _) (by rw [List.getElem?_set_ne (by omega)]; exact g3)]
theorem encC_set2 {l : List Cell} {i : Nat} (h : i < l.length) {b : Bool} : (encC l).set (i * 4 + 1) (.bool b) = encC (l.set i { l[i] with s := b }) := by
 have g := encC_get l i
 have h0 : l[i]? = some l[i] := List.getElem?_eq_getElem h
 rw [encC_set _ _ _ h]
 simp only [Cell.enc,write_cons,write_nil]
 have g0 : (encC l)[i * 4]? = some (.int .i64 l[i].v) := by have := g 0 (by omega); rw [Nat.add_zero] at this; rw [this,h0]; rfl
 have g2 : (encC l)[i * 4 + 2]? = some (.bool l[i].t) := by rw [g 2 (by omega),h0]; rfl
 have g3 : (encC l)[i * 4 + 3]? = some (.bool l[i].r) := by rw [g 3 (by omega),h0]; rfl
 rw [set_self g0]
 rw [set_self (l := (encC l).set (i * 4 + 1) _) (by rw [List.getElem?_set_ne (by omega)]; exact g2)]
 rw [set_self (l := (encC l).set (i * 4 + 1) _) (by rw [List.getElem?_set_ne (by omega)]; exact g3)]
theorem encC_set3 {l : List Cell} {i : Nat} (h : i < l.length) {b : Bool} : (encC l).set (i * 4 + 2) (.bool b) = encC (l.set i { l[i] with t := b }) := by
 have g := encC_get l i
 have h0 : l[i]? = some l[i] := List.getElem?_eq_getElem h
 rw [encC_set _ _ _ h]
 simp only [Cell.enc,write_cons,write_nil]
 have g0 : (encC l)[i * 4]? = some (.int .i64 l[i].v) := by have := g 0 (by omega); rw [Nat.add_zero] at this; rw [this,h0]; rfl
 have g1 : (encC l)[i * 4 + 1]? = some (.bool l[i].s) := by rw [g 1 (by omega),h0]; rfl
 have g3 : (encC l)[i * 4 + 3]? = some (.bool l[i].r) := by rw [g 3 (by omega),h0]; rfl
 rw [set_self g0,set_self g1]
 rw [set_self (l := (encC l).set (i * 4 + 2) _) (by rw [List.getElem?_set_ne (by omega)]; exact g3)]
theorem encC_set4 {l : List Cell} {i : Nat} (h : i < l.length) {b : Bool} : (encC l).set (i * 4 + 3) (.bool b) = encC (l.set i { l[i] with r := b }) := by
 have g := encC_get l i
 have h0 : l[i]? = some l[i] := List.getElem?_eq_getElem h
 rw [encC_set _ _ _ h]
 simp only [Cell.enc,write_cons,write_nil]
 have g0 : (encC l)[i * 4]? = some (.int .i64 l[i].v) := by have := g 0 (by omega); rw [Nat.add_zero] at this; rw [this,h0]; rfl
 have g1 : (encC l)[i * 4 + 1]? = some (.bool l[i].s) := by rw [g 1 (by omega),h0]; rfl
 have g2 : (encC l)[i * 4 + 2]? = some (.bool l[i].t) := by rw [g 2 (by omega),h0]; rfl
 rw [set_self g0,set_self g1,set_self g2]
structure BS where
 w : Nat
 h : Nat
 cs : List Cell
structure BS.Ok (b : BS) : Prop where
 w1 : 1 ≤ b.w
 w2 : b.w ≤ 64
 h1 : 1 ≤ b.h
 h2 : b.h ≤ 64
 len : b.cs.length = b.w * b.h
def BS.inb (b : BS) (x y : Int) : Prop := 0 ≤ x ∧ x < b.w ∧ 0 ≤ y ∧ y < b.h
instance (b : BS) (x y : Int) : Decidable (b.inb x y) := by unfold BS.inb; exact inferInstance
def BS.idx (b : BS) (x y : Int) : Nat := (y * b.w + x).toNat
def BS.get (b : BS) (x y : Int) : Cell := if b.inb x y then b.cs.getD (b.idx x y) .zero else .zero
def BS.upd (b : BS) (x y : Int) (f : Cell → Cell) : BS := { b with cs := b.cs.set (b.idx x y) (f (b.get x y)) }
theorem mul_le64 {a b c d : Nat} (h1 : a ≤ c) (h2 : b ≤ d) : a * b ≤ c * d := Nat.mul_le_mul h1 h2
theorem BS.idx_lt {b : BS} (ho : b.Ok) {x y : Int} (hi : b.inb x y) : b.idx x y < b.cs.length := by
 obtain ⟨h1,h2,h3,h4⟩ := hi
 rw [ho.len]
 obtain ⟨n,rfl⟩ := Int.eq_ofNat_of_zero_le h1
 obtain ⟨m,rfl⟩ := Int.eq_ofNat_of_zero_le h3
 have e : b.idx n m = m * b.w + n := by
  unfold BS.idx
  rw [show ((m : Int) * b.w + n) = ((m * b.w + n : Nat) : Int) by simp]; rfl
 rw [e]
 have hm : m + 1 ≤ b.h := by omega
 have := Nat.mul_le_mul_right b.w hm
 rw [Nat.add_mul] at this
 rw [Nat.mul_comm b.w]
 omega
theorem BS.idx_int {b : BS} (ho : b.Ok) {x y : Int} (hi : b.inb x y) : y * b.w + x = (b.idx x y : Int) ∧ b.idx x y < 4096 ∧ 0 ≤ y * (b.w : Int) ∧ y * (b.w : Int) ≤ 4096 := by
 have hl := BS.idx_lt ho hi
 obtain ⟨h1,h2,h3,h4⟩ := hi
 have h0 : 0 ≤ y * (b.w : Int) := Int.mul_nonneg h3 (by omega)
 have hm := mul_le64 ho.w2 ho.h2
 rw [← ho.len] at hm
 have he : y * b.w + x = (b.idx x y : Int) := by unfold BS.idx; rw [Int.toNat_of_nonneg (by omega)]
 refine ⟨he,by omega,h0,by omega⟩
theorem BS.get_in {b : BS} (ho : b.Ok) {x y : Int} (hi : b.inb x y) : b.cs[b.idx x y]? = some (b.get x y) := by
 unfold BS.get
 rw [if_pos hi,List.getD_eq_getElem?_getD,List.getElem?_eq_getElem (BS.idx_lt ho hi)]; rfl
theorem BS.getElem_in {b : BS} (ho : b.Ok) {x y : Int} (hi : b.inb x y) : b.cs[b.idx x y]'(BS.idx_lt ho hi) = b.get x y := by
 have := BS.get_in ho hi
 rw [List.getElem?_eq_getElem (BS.idx_lt ho hi)] at this
 exact Option.some.inj this
theorem BS.get_out {b : BS} {x y : Int} (hi : ¬ b.inb x y) : b.get x y = .zero := by
 unfold BS.get; rw [if_neg hi]
theorem BS.Ok.upd {b : BS} (ho : b.Ok) (x y : Int) (f : Cell → Cell) : (b.upd x y f).Ok := ⟨ho.w1,ho.w2,ho.h1,ho.h2,by simp [BS.upd,ho.len]⟩
theorem BS.idx_inj {b : BS} (ho : b.Ok) {x y x' y' : Int} (hi : b.inb x y) (hi' : b.inb x' y') (he : b.idx x y = b.idx x' y') : x = x' ∧ y = y' := by
 have h1 := (BS.idx_int ho hi).1
 have h2 := (BS.idx_int ho hi').1
 rw [← he,← h1] at h2
 obtain ⟨a1,a2,a3,a4⟩ := hi
 obtain ⟨b1,b2,b3,b4⟩ := hi'
 have hy : y = y' := by
  rcases Int.lt_trichotomy y y' with h | h | h
  ·have := Int.mul_le_mul_of_nonneg_right (show y + 1 ≤ y' by omega) (show (0 : Int) ≤ b.w by omega)
   rw [Int.add_mul] at this; omega
  ·exact h
  ·have := Int.mul_le_mul_of_nonneg_right (show y' + 1 ≤ y by omega) (show (0 : Int) ≤ b.w by omega)
   rw [Int.add_mul] at this; omega
 subst hy
 exact ⟨by omega,rfl⟩
theorem BS.get_upd {b : BS} (ho : b.Ok) {x y : Int} (hi : b.inb x y) (f : Cell → Cell) (x' y' : Int) : (b.upd x y f).get x' y' = if x' = x ∧ y' = y then f (b.get x y) else b.get x' y' := by
 have hinb : (b.upd x y f).inb x' y' ↔ b.inb x' y' := Iff.rfl
 have hidx : (b.upd x y f).idx x' y' = b.idx x' y' := rfl
 by_cases hi' : b.inb x' y'
 ·have hl := BS.idx_lt ho hi
  have e : (b.upd x y f).get x' y' = ((b.cs.set (b.idx x y) (f (b.get x y)))[b.idx x' y']?).getD .zero := by
   unfold BS.get
   rw [if_pos (hinb.2 hi'),List.getD_eq_getElem?_getD]; rfl
  rw [e]
  by_cases hx : x' = x ∧ y' = y
  ·obtain ⟨rfl,rfl⟩ := hx
   rw [if_pos ⟨rfl,rfl⟩,List.getElem?_set_self hl]; rfl
  ·rw [if_neg hx,List.getElem?_set_ne (fun h => hx (by have := BS.idx_inj ho hi hi' h; exact ⟨this.1.symm,this.2.symm⟩)),BS.get_in ho hi']; rfl
 ·rw [BS.get_out (fun h => hi' (hinb.1 h)),BS.get_out hi',if_neg]
  rintro ⟨rfl,rfl⟩
  exact hi' hi
def one (b : BS) (x y : Int) : Nat := if (b.get x y).s = true then 1 else 0
def nbH (b : BS) (x y : Int) : Nat := one b (x - 1) y + one b (x + 1) y
def nbV (b : BS) (x y : Int) (causal : Bool) : Nat := one b x (y - 1) + if (!causal || y % 4 != 3) = true then one b x (y + 1) else 0
def nbD (b : BS) (x y : Int) (causal : Bool) : Nat := one b (x - 1) (y - 1) + one b (x + 1) (y - 1) + if (!causal || y % 4 != 3) = true then one b (x - 1) (y + 1) + one b (x + 1) (y + 1) else 0
def sgn (b : BS) (x y : Int) : Int := if (b.get x y).s = true then (if (b.get x y).v < 0 then -1 else 1) else 0
def joint (s t : Int) : Int := min (max (s + t) (-1)) 1
def sgH (b : BS) (x y : Int) : Int := joint (sgn b (x - 1) y) (sgn b (x + 1) y)
def sgV (b : BS) (x y : Int) (causal : Bool) : Int := joint (sgn b x (y - 1)) (if (!causal || y % 4 != 3) = true then sgn b x (y + 1) else 0)
structure CB (h : Heap) (f : Bool) (p c : Nat) (b : BS) : Prop where
 blkp : blk? h p = some ⟨f,[.int .i64 b.w,.int .i64 b.h,.slice (some ⟨c,0,none⟩) (b.w * b.h) 4]⟩
 blkc : blk? h c = some ⟨f,encC b.cs⟩
 ok : b.Ok
theorem CB.frz {h : Heap} {f : Bool} {p c : Nat} {b : BS} (hb : CB h f p c b) : CB (frz h) true p c b :=
 ⟨blk_frz hb.blkp (by simp [blk?_lt hb.blkc]),blk_frz hb.blkc (encC_noAddr _ _),hb.ok⟩
theorem CB.ne {h : Heap} {f : Bool} {p c : Nat} {b : BS} (hb : CB h f p c b) : p ≠ c := by
 intro e
 have h1 := hb.blkp
 rw [e,hb.blkc] at h1
 have h2 := congrArg (fun o : Option Blk => o.map (fun b => b.cells[2]?)) h1
 simp only [Option.map_some,Option.some.injEq] at h2
 have h3 := encC_get b.cs 0 2 (by omega)
 rw [show 0 * 4 + 2 = 2 by rfl] at h3
 rw [h3] at h2
 cases hx : b.cs[0]? with
 | none => rw [hx] at h2; simp at h2
 | some x => rw [hx] at h2; simp [Cell.enc] at h2
theorem CB.set {h : Heap} {p c : Nat} {b b' : BS} (hb : CB h false p c b) (hw : b'.w = b.w) (hh : b'.h = b.h) (ho : b'.Ok) : CB (h.set c (some ⟨false,encC b'.cs⟩)) false p c b' :=
 ⟨by rw [blk?_set_ne (Ne.symm hb.ne),hw,hh]; exact hb.blkp,blk?_set_eq (blk?_lt hb.blkc),ho⟩
section
variable {h : Heap} {f : Bool} {p c : Nat} {b : BS} {x y : Int} {R : Value → Heap → Prop}
theorem CB.at (hb : CB h f p c b) (hi : b.inb x y) :
  IntKind.i64.wrap (IntKind.i64.wrap (y * (b.w : Int)) + x) = (b.idx x y : Int) ∧ (b.idx x y : Int) < ((b.w * b.h : Nat) : Int) ∧ b.idx x y < b.cs.length ∧ b.idx x y < b.w * b.h := by
 obtain ⟨h1,h2,h3,h4⟩ := BS.idx_int hb.ok hi
 have hl := BS.idx_lt hb.ok hi
 have hm := mul_le64 hb.ok.w2 hb.ok.h2
 have := hb.ok.len
 rw [wrapI (n := y * (b.w : Int)) (by omega) (by omega),h1,wrapI (by omega) (by omega)]
 exact ⟨rfl,by omega,hl,by omega⟩
theorem at_in (hb : CB h f p c b) (hi : b.inb x y) : Ret tab 113 [ptr p,.int .i64 x,.int .i64 y] h R = R (.pointer (some ⟨c,b.idx x y * 4,none⟩)) h := by
 have hp := hb.frz.blkp
 have hlp := blk?_lt hb.blkp
 have hlc := blk?_lt hb.blkc
 obtain ⟨a1,a2,a3,a4⟩ := hb.at hi
 obtain ⟨h1,h2,h3,h4⟩ := hi
 have n1 : ¬ x < 0 := by omega
 have n2 : ¬ (b.w : Int) ≤ x := by omega
 have n3 : ¬ y < 0 := by omega
 have n4 : ¬ (b.h : Int) ≤ y := by omega
 rw [Int.natCast_mul] at a2
 rw [enter113,B113]
 simp [k_guard,hp,hlp,hlc,n1,n2,n3,n4,a1,a2,fin113]
theorem at_out (hb : CB h f p c b) (hi : ¬ b.inb x y) : Ret tab 113 [ptr p,.int .i64 x,.int .i64 y] h R = R (.pointer none) h := by
 have hp := hb.frz.blkp
 have hlp := blk?_lt hb.blkp
 rw [enter113,B113]
 by_cases n1 : x < 0
 ·simp [k_guard,hp,hlp,n1,fin113]
 by_cases n2 : (b.w : Int) ≤ x
 ·simp [k_guard,hp,hlp,n1,n2,fin113]
 by_cases n3 : y < 0
 ·simp [k_guard,hp,hlp,n1,n2,n3,fin113]
 by_cases n4 : (b.h : Int) ≤ y
 ·simp [k_guard,hp,hlp,n1,n2,n3,n4,fin113]
 ·exact absurd ⟨by omega,by omega,by omega,by omega⟩ hi
theorem CB.cells (hb : CB h f p c b) (hi : b.inb x y) : (encC b.cs)[b.idx x y * 4]? = some (.int .i64 (b.get x y).v) ∧ (encC b.cs)[b.idx x y * 4 + 1]? = some (.bool (b.get x y).s) ∧
  (encC b.cs)[b.idx x y * 4 + 2]? = some (.bool (b.get x y).t) ∧ (encC b.cs)[b.idx x y * 4 + 3]? = some (.bool (b.get x y).r) := by
 have g := encC_get b.cs (b.idx x y)
 have h0 := BS.get_in hb.ok hi
 have g0 := g 0 (by omega)
 rw [Nat.add_zero] at g0
 exact ⟨by rw [g0,h0]; rfl,by rw [g 1 (by omega),h0]; rfl,by rw [g 2 (by omega),h0]; rfl,by rw [g 3 (by omega),h0]; rfl⟩
theorem size_c (hb : CB h f p c b) : Ret tab 108 [ptr p] h R = R (.tuple #[.int .i64 b.w,.int .i64 b.h]) h := by
 have hp := hb.frz.blkp
 have hlp := blk?_lt hb.blkp
 rw [enter108,B108]
 simp [hp,hlp,fin108]
theorem value_c (hb : CB h f p c b) : Ret tab 64 [ptr p,.int .i64 x,.int .i64 y] h R = R (.int .i64 (b.get x y).v) h := by
 have hlp := blk?_lt hb.blkp
 have hc := hb.frz.blkc
 rw [enter64,B64]
 by_cases hi : b.inb x y
 ·obtain ⟨c1,c2,c3,c4⟩ := hb.cells hi
  simp [hlp,at_in hb.frz hi,hc,c1,fin64]
 ·simp [hlp,at_out hb.frz hi,fin64,BS.get_out hi,Cell.zero]
theorem significant_c (hb : CB h f p c b) : Ret tab 140 [ptr p,.int .i64 x,.int .i64 y] h R = R (.bool (b.get x y).s) h := by
 have hlp := blk?_lt hb.blkp
 have hc := hb.frz.blkc
 rw [enter140,B140]
 by_cases hi : b.inb x y
 ·obtain ⟨c1,c2,c3,c4⟩ := hb.cells hi
  simp [k_guard,hlp,at_in hb.frz hi,hc,c2,fin140]
 ·simp [k_guard,hlp,at_out hb.frz hi,fin140,BS.get_out hi,Cell.zero]
theorem touched_c (hb : CB h f p c b) : Ret tab 65 [ptr p,.int .i64 x,.int .i64 y] h R = R (.bool (b.get x y).t) h := by
 have hlp := blk?_lt hb.blkp
 have hc := hb.frz.blkc
 rw [enter65,B65]
 by_cases hi : b.inb x y
 ·obtain ⟨c1,c2,c3,c4⟩ := hb.cells hi
  simp [k_guard,hlp,at_in hb.frz hi,hc,c3,fin65]
 ·simp [k_guard,hlp,at_out hb.frz hi,fin65,BS.get_out hi,Cell.zero]
theorem refined_c (hb : CB h f p c b) : Ret tab 145 [ptr p,.int .i64 x,.int .i64 y] h R = R (.bool (b.get x y).r) h := by
 have hlp := blk?_lt hb.blkp
 have hc := hb.frz.blkc
 rw [enter145,B145]
 by_cases hi : b.inb x y
 ·obtain ⟨c1,c2,c3,c4⟩ := hb.cells hi
  simp [k_guard,hlp,at_in hb.frz hi,hc,c4,fin145]
 ·simp [k_guard,hlp,at_out hb.frz hi,fin145,BS.get_out hi,Cell.zero]
theorem one_c (hb : CB h f p c b) : Ret tab 191 [ptr p,.int .i64 x,.int .i64 y] h R = R (.int .i64 (one b x y)) h := by
 have hlp := blk?_lt hb.blkp
 rw [enter191,B191]
 cases hs : (b.get x y).s <;> simp [hlp,significant_c hb.frz,hs,fin191,one]
theorem sign_c (hb : CB h f p c b) : Ret tab 195 [ptr p,.int .i64 x,.int .i64 y] h R = R (.int .i64 (sgn b x y)) h := by
 have hlp := blk?_lt hb.blkp
 have hc := hb.frz.blkc
 rw [enter195,B195]
 by_cases hi : b.inb x y
 ·obtain ⟨c1,c2,c3,c4⟩ := hb.cells hi
  cases hs : (b.get x y).s
  ·simp [k_guard,hlp,at_in hb.frz hi,hc,c1,c2,hs,fin195,sgn]
  ·by_cases hv : (b.get x y).v < 0 <;> simp [k_guard,hlp,at_in hb.frz hi,hc,c1,c2,hs,hv,fin195,sgn]
 ·simp [k_guard,hlp,at_out hb.frz hi,fin195,sgn,BS.get_out hi,Cell.zero]
end
theorem sgn_range (b : BS) (x y : Int) : sgn b x y = -1 ∨ sgn b x y = 0 ∨ sgn b x y = 1 := by
 unfold sgn; split <;> (try split) <;> simp
theorem one_le (b : BS) (x y : Int) : one b x y ≤ 1 := by
 unfold one; split <;> omega
theorem tmod4 {y : Int} (h : 0 ≤ y) : y.tmod 4 = y % 4 := Int.tmod_eq_emod_of_nonneg h
section
variable {h : Heap} {f : Bool} {p c : Nat} {b : BS} {x y : Int} {R : Value → Heap → Prop}
theorem nb_facts (b : BS) (x y : Int) : (one b (x - 1) y ≤ 1 ∧ one b (x + 1) y ≤ 1 ∧ one b x (y - 1) ≤ 1 ∧ one b x (y + 1) ≤ 1) ∧ (one b (x - 1) (y - 1) ≤ 1 ∧ one b (x + 1) (y - 1) ≤ 1 ∧ one b (x - 1) (y + 1) ≤ 1 ∧ one b (x + 1) (y + 1) ≤ 1) :=
 ⟨⟨one_le _ _ _,one_le _ _ _,one_le _ _ _,one_le _ _ _⟩,⟨one_le _ _ _,one_le _ _ _,one_le _ _ _,one_le _ _ _⟩⟩
theorem wrapNN {a b : Nat} (h : a + b < 9223372036854775808) : IntKind.i64.wrap ((a : Int) + (b : Int)) = ((a + b : Nat) : Int) := by
 rw [← Int.natCast_add]; exact wrapN h
theorem BS.inb_range {b : BS} (ho : b.Ok) (hi : b.inb x y) : 0 ≤ x ∧ x < 64 ∧ 0 ≤ y ∧ y < 64 := by
 obtain ⟨h1,h2,h3,h4⟩ := hi
 have := ho.w2; have := ho.h2
 omega
theorem BS.wraps {b : BS} (ho : b.Ok) (hi : b.inb x y) : IntKind.i64.wrap (x - 1) = x - 1 ∧ IntKind.i64.wrap (x + 1) = x + 1 ∧ IntKind.i64.wrap (y - 1) = y - 1 ∧ IntKind.i64.wrap (y + 1) = y + 1 ∧ y.tmod 4 = y % 4 := by
 obtain ⟨h1,h2,h3,h4⟩ := BS.inb_range ho hi
 exact ⟨wrapI (by omega) (by omega),wrapI (by omega) (by omega),wrapI (by omega) (by omega),wrapI (by omega) (by omega),tmod4 h3⟩
theorem joint_c {s t : Int} (hs : s = -1 ∨ s = 0 ∨ s = 1) (ht : t = -1 ∨ t = 0 ∨ t = 1) : Ret tab 196 [.int .i64 s,.int .i64 t] h R = R (.int .i64 (joint s t)) h := by
 rw [enter196,B196]
 rcases hs with rfl | rfl | rfl <;> rcases ht with rfl | rfl | rfl <;> (simp [fold1,foldO,min2V,max2V,wrapI,fin196,joint]; try exact Iff.rfl)
theorem neighbors_c (hb : CB h f p c b) (hi : b.inb x y) (q : Bool) : Ret tab 177 [ptr p,.int .i64 x,.int .i64 y,.bool q] h R = R (.tuple #[.int .i64 (nbH b x y : Nat),.int .i64 (nbV b x y q : Nat),.int .i64 (nbD b x y q : Nat)]) h := by
 have hlp := blk?_lt hb.blkp
 have hlc := blk?_lt hb.blkc
 obtain ⟨w1,w2,w3,w4,w5⟩ := BS.wraps hb.ok hi
 have hn : ∀ x y R,Ret tab 191 [ptr p,.int .i64 x,.int .i64 y] (frz h) R = R (.int .i64 (one b x y)) (frz h) := fun x y R => one_c hb.frz
 have ha := fun R => at_in hb.frz hi (R := R)
 obtain ⟨⟨a1,a2,a3,a4⟩,⟨b1,b2,b3,b4⟩⟩ := nb_facts b x y
 have s1 : IntKind.i64.wrap ((one b (x - 1) y : Int) + (one b (x + 1) y : Int)) = ((one b (x - 1) y + one b (x + 1) y : Nat) : Int) := wrapNN (by omega)
 have s2 : IntKind.i64.wrap ((one b (x - 1) (y - 1) : Int) + (one b (x + 1) (y - 1) : Int)) = ((one b (x - 1) (y - 1) + one b (x + 1) (y - 1) : Nat) : Int) := wrapNN (by omega)
 have s3 : IntKind.i64.wrap ((one b x (y - 1) : Int) + (one b x (y + 1) : Int)) = ((one b x (y - 1) + one b x (y + 1) : Nat) : Int) := wrapNN (by omega)
 have s4 : IntKind.i64.wrap (((one b (x - 1) (y - 1) + one b (x + 1) (y - 1) : Nat) : Int) + (one b (x - 1) (y + 1) : Int)) = ((one b (x - 1) (y - 1) + one b (x + 1) (y - 1) + one b (x - 1) (y + 1) : Nat) : Int) := wrapNN (by omega)
 have s5 : IntKind.i64.wrap (((one b (x - 1) (y - 1) + one b (x + 1) (y - 1) + one b (x - 1) (y + 1) : Nat) : Int) + (one b (x + 1) (y + 1) : Int)) = ((one b (x - 1) (y - 1) + one b (x + 1) (y - 1) + one b (x - 1) (y + 1) + one b (x + 1) (y + 1) : Nat) : Int) := wrapNN (by omega)
 have s6 : IntKind.i64.wrap ((one b (x - 1) (y + 1) : Int) + (one b (x + 1) (y + 1) : Int)) = ((one b (x - 1) (y + 1) + one b (x + 1) (y + 1) : Nat) : Int) := wrapNN (by omega)
 have s7 : IntKind.i64.wrap (((one b (x - 1) (y - 1) + one b (x + 1) (y - 1) : Nat) : Int) + ((one b (x - 1) (y + 1) + one b (x + 1) (y + 1) : Nat) : Int)) = ((one b (x - 1) (y - 1) + one b (x + 1) (y - 1) + (one b (x - 1) (y + 1) + one b (x + 1) (y + 1)) : Nat) : Int) := wrapNN (by omega)
 have hassoc : one b (x - 1) (y - 1) + one b (x + 1) (y - 1) + one b (x - 1) (y + 1) + one b (x + 1) (y + 1) = one b (x - 1) (y - 1) + one b (x + 1) (y - 1) + (one b (x - 1) (y + 1) + one b (x + 1) (y + 1)) := by omega
 have hg : nbH b x y = one b (x - 1) y + one b (x + 1) y := rfl
 rw [enter177,B177]
 generalize e1 : one b (x - 1) y = o1 at *
 generalize e2 : one b (x + 1) y = o2 at *
 generalize e3 : one b x (y - 1) = o3 at *
 generalize e4 : one b x (y + 1) = o4 at *
 generalize e5 : one b (x - 1) (y - 1) = o5 at *
 generalize e6 : one b (x + 1) (y - 1) = o6 at *
 generalize e7 : one b (x - 1) (y + 1) = o7 at *
 generalize e8 : one b (x + 1) (y + 1) = o8 at *
 rw [hassoc] at s5
 cases q
 ·simp [-Int.natCast_add,k_guard,hlp,hlc,ha,hn,w1,w2,w3,w4,w5,e1,e2,e3,e4,e5,e6,e7,e8,s1,s2,s3,s4,s5,s6,s7,fin177,nbH,nbV,nbD]
 ·by_cases hy : y % 4 = 3
  ·have hy' : (y % 4 != 3) = false := by simp [hy]
   simp [-Int.natCast_add,k_guard,hlp,hlc,ha,hn,w1,w2,w3,w4,w5,e1,e2,e3,e4,e5,e6,e7,e8,s1,s2,s3,s4,s5,s6,s7,hy,hy',fin177,nbH,nbV,nbD]
  ·have hy' : (y % 4 != 3) = true := by simp [hy]
   simp [-Int.natCast_add,k_guard,hlp,hlc,ha,hn,w1,w2,w3,w4,w5,e1,e2,e3,e4,e5,e6,e7,e8,s1,s2,s3,s4,s5,s6,s7,hy,hy',fin177,nbH,nbV,nbD]
theorem signs_c (hb : CB h f p c b) (hi : b.inb x y) (q : Bool) : Ret tab 180 [ptr p,.int .i64 x,.int .i64 y,.bool q] h R = R (.tuple #[.int .i64 (sgH b x y),.int .i64 (sgV b x y q)]) h := by
 have hlp := blk?_lt hb.blkp
 have hlc := blk?_lt hb.blkc
 obtain ⟨w1,w2,w3,w4,w5⟩ := BS.wraps hb.ok hi
 have hn : ∀ x y R,Ret tab 195 [ptr p,.int .i64 x,.int .i64 y] (frz h) R = R (.int .i64 (sgn b x y)) (frz h) := fun x y R => sign_c hb.frz
 have ha := fun R => at_in hb.frz hi (R := R)
 have j1 : ∀ R,Ret tab 196 [.int .i64 (sgn b (x - 1) y),.int .i64 (sgn b (x + 1) y)] (frz h) R = R (.int .i64 (joint (sgn b (x - 1) y) (sgn b (x + 1) y))) (frz h) := fun R => joint_c (sgn_range _ _ _) (sgn_range _ _ _)
 have j2 : ∀ R,Ret tab 196 [.int .i64 (sgn b x (y - 1)),.int .i64 (sgn b x (y + 1))] (frz h) R = R (.int .i64 (joint (sgn b x (y - 1)) (sgn b x (y + 1)))) (frz h) := fun R => joint_c (sgn_range _ _ _) (sgn_range _ _ _)
 have j3 : ∀ R,Ret tab 196 [.int .i64 (sgn b x (y - 1)),.int .i64 0] (frz h) R = R (.int .i64 (joint (sgn b x (y - 1)) 0)) (frz h) := fun R => joint_c (sgn_range _ _ _) (.inr (.inl rfl))
 rw [enter180,B180]
 cases q
 ·simp [k_guard,hlp,hlc,ha,hn,w1,w2,w3,w4,w5,j1,j2,j3,fin180,sgH,sgV]
 ·by_cases hy : y % 4 = 3
  ·have hy' : (y % 4 != 3) = false := by simp [hy]
   have hy2 : (y % 4 == 3) = true := by simp [hy]
   simp [k_guard,hlp,hlc,ha,hn,w1,w2,w3,w4,w5,hy,hy',hy2,j1,j2,j3,fin180,sgH,sgV]
  ·have hy' : (y % 4 != 3) = true := by simp [hy]
   have hy2 : (y % 4 == 3) = false := by simp [hy]
   simp [k_guard,hlp,hlc,ha,hn,w1,w2,w3,w4,w5,hy,hy',hy2,j1,j2,j3,fin180,sgH,sgV]
theorem set_c (hb : CB h false p c b) (hi : b.inb x y) {v : Int} (hv : -1152921504606846976 < v ∧ v < 1152921504606846976) : Ret tab 79 [ptr p,.int .i64 x,.int .i64 y,.int .i64 v] h R = R (.int .i64 0) (h.set c (some ⟨false,encC (b.upd x y fun z => { z with v := v }).cs⟩)) := by
 have hlp := blk?_lt hb.blkp
 have hc := hb.blkc
 have hl := BS.idx_lt hb.ok hi
 have hg := BS.getElem_in hb.ok hi
 have h4 : b.idx x y * 4 + 1 ≤ (encC b.cs).length := by rw [encC_len]; omega
 have hset := encC_set1 hl (v := v)
 rw [hg] at hset
 rw [enter79,B79]
 simp [k_guard,hlp,at_in hb hi,hc,h4,hset,show ¬ 1152921504606846975 < v by omega,show ¬ v < -1152921504606846975 by omega,fin79,BS.upd]
theorem mark_c (hb : CB h false p c b) (hi : b.inb x y) : Ret tab 181 [ptr p,.int .i64 x,.int .i64 y] h R = R (.int .i64 0) (h.set c (some ⟨false,encC (b.upd x y fun z => { z with s := true }).cs⟩)) := by
 have hlp := blk?_lt hb.blkp
 have hc := hb.blkc
 have hl := BS.idx_lt hb.ok hi
 have hg := BS.getElem_in hb.ok hi
 have h4 : b.idx x y * 4 + 2 ≤ (encC b.cs).length := by rw [encC_len]; omega
 have hset := encC_set2 hl (b := true)
 rw [hg] at hset
 rw [enter181,B181]
 simp [k_guard,hlp,at_in hb hi,hc,h4,hset,fin181,BS.upd]
theorem touch_c (hb : CB h false p c b) (hi : b.inb x y) {v : Bool} : Ret tab 143 [ptr p,.int .i64 x,.int .i64 y,.bool v] h R = R (.int .i64 0) (h.set c (some ⟨false,encC (b.upd x y fun z => { z with t := v }).cs⟩)) := by
 have hlp := blk?_lt hb.blkp
 have hc := hb.blkc
 have hl := BS.idx_lt hb.ok hi
 have hg := BS.getElem_in hb.ok hi
 have h4 : b.idx x y * 4 + 3 ≤ (encC b.cs).length := by rw [encC_len]; omega
 have hset := encC_set3 hl (b := v)
 rw [hg] at hset
 rw [enter143,B143]
 simp [k_guard,hlp,at_in hb hi,hc,h4,hset,fin143,BS.upd]
theorem refine_c (hb : CB h false p c b) (hi : b.inb x y) : Ret tab 147 [ptr p,.int .i64 x,.int .i64 y] h R = R (.int .i64 0) (h.set c (some ⟨false,encC (b.upd x y fun z => { z with r := true }).cs⟩)) := by
 have hlp := blk?_lt hb.blkp
 have hc := hb.blkc
 have hl := BS.idx_lt hb.ok hi
 have hg := BS.getElem_in hb.ok hi
 have h4 : b.idx x y * 4 + 4 ≤ (encC b.cs).length := by rw [encC_len]; omega
 have hset := encC_set4 hl (b := true)
 rw [hg] at hset
 rw [enter147,B147]
 simp [k_guard,hlp,at_in hb hi,hc,h4,hset,fin147,BS.upd]
end
section
variable {h : Heap} {f : Bool} {p c : Nat} {b : BS} {x y : Int} {R : Value → Heap → Prop}
theorem BS.Ok.pos {b : BS} (ho : b.Ok) : 0 < b.w * b.h := Nat.mul_pos ho.w1 ho.h1
theorem made_r (hb : CB h f p c b) : Ret tab 151 [ptr p] h R = R (.bool true) h := by
 have hp := hb.frz.blkp
 have hlp := blk?_lt hb.blkp
 have h1 : (0 : Int) < (b.w : Int) * b.h := by rw [← Int.natCast_mul]; exact Int.natCast_pos.2 hb.ok.pos
 rw [enter151,B151]
 simp [k_guard,hp,hlp,h1,fin151]
theorem in_r (hb : CB h f p c b) (hi : b.inb x y) : Ret tab 150 [ptr p,.int .i64 x,.int .i64 y] h R = R (.bool true) h := by
 have hp := hb.frz.blkp
 have hlp := blk?_lt hb.blkp
 obtain ⟨h1,h2,h3,h4⟩ := hi
 rw [enter150,B150]
 simp [k_guard,hp,hlp,made_r hb.frz,h1,h2,h3,h4,fin150]
theorem in_out_r (hb : CB h f p c b) (hi : ¬ b.inb x y) : Ret tab 150 [ptr p,.int .i64 x,.int .i64 y] h R = R (.bool false) h := by
 have hp := hb.frz.blkp
 have hlp := blk?_lt hb.blkp
 rw [enter150,B150]
 by_cases n1 : 0 ≤ x
 ·by_cases n2 : x < (b.w : Int)
  ·by_cases n3 : 0 ≤ y
   ·by_cases n4 : y < (b.h : Int)
    ·exact absurd ⟨n1,n2,n3,n4⟩ hi
    ·simp [k_guard,hp,hlp,made_r hb.frz,n1,n2,n3,n4,fin150]
   ·simp [k_guard,hp,hlp,made_r hb.frz,n1,n2,n3,fin150]
  ·simp [k_guard,hp,hlp,made_r hb.frz,n1,n2,fin150]
 ·simp [k_guard,hp,hlp,made_r hb.frz,n1,fin150]
theorem error_r (hb : CB h f p c b) (hi : b.inb x y) : Ret tab 127 [ptr p,.int .i64 x,.int .i64 y] h R = R (.int .i64 0) h := by
 have hlp := blk?_lt hb.blkp
 rw [enter127,B127]
 simp [hlp,made_r hb.frz,in_r hb.frz hi,fin127]
def Cell.agg (c : Cell) : Value := .agg #[.int .i64 c.v,.bool c.s,.bool c.t,.bool c.r]
theorem get_r (hb : CB h f p c b) : Ret tab 115 [ptr p,.int .i64 x,.int .i64 y] h R = R (b.get x y).agg h := by
 have hp := hb.frz.blkp
 have hc := hb.frz.blkc
 have hlp := blk?_lt hb.blkp
 have hlc := blk?_lt hb.blkc
 have hb1 : CB (frz h ++ [some ⟨false,[.int .i64 0,.bool false,.bool false,.bool false]⟩]) true p c b := ⟨blk?_push hp,blk?_push hc,hb.ok⟩
 have hp1 := hb1.blkp
 have hc1 := hb1.blkc
 have hn : ∀ y : Blk,blk? (frz h ++ [some y]) h.length = some y := fun y => by
  have := blk?_push_eq (h := frz h) (x := some y)
  rwa [len_frz] at this
 have hls : ∀ x : Option Blk,((frz h) ++ [x]).length = h.length + 1 := fun x => by simp
 rw [enter115,B115]
 by_cases hi : b.inb x y
 ·obtain ⟨a1,a2,a3,a4⟩ := hb.at hi
  have hd := encC_drop b.cs (b.idx x y) a3
  rw [BS.getElem_in hb.ok hi] at hd
  have h4 : b.idx x y * 4 + 4 ≤ (encC b.cs).length := by rw [encC_len]; omega
  rw [Int.natCast_mul] at a2
  simp [-List.cons_append,-List.append_assoc,in_r hb1 hi,hp1,hc1,a1,a2,hd,h4,hn,hls,hlp,show p < h.length + 1 by omega,Cell.enc,finishV,allSome,resV,R115,blk?_set_eq,Cell.agg]
 ·simp [in_out_r hb1 hi,hn,hls,hlp,show p < h.length + 1 by omega,finishV,allSome,resV,R115,blk?_set_eq,Cell.agg,BS.get_out hi,Cell.zero]
theorem size_r (hb : CB h f p c b) : Ret tab 117 [ptr p] h R = R (.tuple #[.int .i64 b.w,.int .i64 b.h]) h := by
 have hp := hb.frz.blkp
 have hlp := blk?_lt hb.blkp
 rw [enter117,B117]
 simp [hp,hlp,made_r hb.frz,fin117]
theorem value_r (hb : CB h f p c b) : Ret tab 71 [ptr p,.int .i64 x,.int .i64 y] h R = R (.int .i64 (b.get x y).v) h := by
 have hlp := blk?_lt hb.blkp
 rw [enter71,B71]
 simp [hlp,get_r hb.frz,Cell.agg,fin71]
theorem significant_r (hb : CB h f p c b) : Ret tab 152 [ptr p,.int .i64 x,.int .i64 y] h R = R (.bool (b.get x y).s) h := by
 have hlp := blk?_lt hb.blkp
 rw [enter152,B152]
 simp [hlp,get_r hb.frz,Cell.agg,fin152]
theorem touched_r (hb : CB h f p c b) : Ret tab 72 [ptr p,.int .i64 x,.int .i64 y] h R = R (.bool (b.get x y).t) h := by
 have hlp := blk?_lt hb.blkp
 rw [enter72,B72]
 simp [hlp,get_r hb.frz,Cell.agg,fin72]
theorem refined_r (hb : CB h f p c b) : Ret tab 158 [ptr p,.int .i64 x,.int .i64 y] h R = R (.bool (b.get x y).r) h := by
 have hlp := blk?_lt hb.blkp
 rw [enter158,B158]
 simp [hlp,get_r hb.frz,Cell.agg,fin158]
theorem count_r (hb : CB h f p c b) : Ret tab 197 [ptr p,.int .i64 x,.int .i64 y] h R = R (.int .i64 (one b x y)) h := by
 have hlp := blk?_lt hb.blkp
 rw [enter197,B197]
 cases hs : (b.get x y).s <;> simp [hlp,get_r hb.frz,Cell.agg,hs,fin197,one]
theorem sign_r (hb : CB h f p c b) : Ret tab 209 [ptr p,.int .i64 x,.int .i64 y] h R = R (.int .i64 (sgn b x y)) h := by
 have hlp := blk?_lt hb.blkp
 have hn : ∀ y : Blk,blk? (frz h ++ [some y]) h.length = some y := fun y => by
  have := blk?_push_eq (h := frz h) (x := some y)
  rwa [len_frz] at this
 rw [enter209,B209]
 cases hs : (b.get x y).s
 ·simp [k_guard,hlp,get_r hb.frz,Cell.agg,hs,hn,fin209,sgn,blk?_set_eq]
 ·by_cases hv : (b.get x y).v < 0 <;> simp [k_guard,hlp,get_r hb.frz,Cell.agg,hs,hv,hn,fin209,sgn,blk?_set_eq]
theorem limit13_r {v lo hi : Int} : Ret tab 198 [.int .i64 v,.int .i64 lo,.int .i64 hi] h R = R (.int .i64 (min (max v lo) hi)) h := by
 rw [enter198,B198]
 simp [fold1,foldO,min2V,max2V,fin198]
 refine Iff.of_eq (congrArg (fun n => R (.int .i64 n) h) ?_)
 split <;> split <;> omega
theorem limit_c {v lo hi : Int} : Ret tab 192 [.int .i64 v,.int .i64 lo,.int .i64 hi] h R = R (.int .i64 (min (max v lo) hi)) h := by
 rw [enter192,B192]
 simp [fold1,foldO,min2V,max2V,fin192]
 refine Iff.of_eq (congrArg (fun n => R (.int .i64 n) h) ?_)
 split <;> split <;> omega
theorem contribution_r {s t : Int} (hs : s = -1 ∨ s = 0 ∨ s = 1) (ht : t = -1 ∨ t = 0 ∨ t = 1) : Ret tab 210 [.int .i64 s,.int .i64 t] h R = R (.int .i64 (joint s t)) h := by
 rw [enter210,B210]
 rcases hs with rfl | rfl | rfl <;> rcases ht with rfl | rfl | rfl <;> (simp [k_guard,limit13_r,wrapI,fin210,joint]; try exact Iff.rfl)
theorem neighbors_r (hb : CB h f p c b) (hi : b.inb x y) (q : Bool) : Ret tab 182 [ptr p,.int .i64 x,.int .i64 y,.bool q] h R = R (.tuple #[.int .i64 (nbH b x y : Nat),.int .i64 (nbV b x y q : Nat),.int .i64 (nbD b x y q : Nat)]) h := by
 have hlp := blk?_lt hb.blkp
 have hlc := blk?_lt hb.blkc
 obtain ⟨w1,w2,w3,w4,w5⟩ := BS.wraps hb.ok hi
 have hn : ∀ x y R,Ret tab 197 [ptr p,.int .i64 x,.int .i64 y] (frz h) R = R (.int .i64 (one b x y)) (frz h) := fun x y R => count_r hb.frz
 have ha := fun R => in_r hb.frz hi (R := R)
 obtain ⟨⟨a1,a2,a3,a4⟩,⟨b1,b2,b3,b4⟩⟩ := nb_facts b x y
 have s1 : IntKind.i64.wrap ((one b (x - 1) y : Int) + (one b (x + 1) y : Int)) = ((one b (x - 1) y + one b (x + 1) y : Nat) : Int) := wrapNN (by omega)
 have s2 : IntKind.i64.wrap ((one b (x - 1) (y - 1) : Int) + (one b (x + 1) (y - 1) : Int)) = ((one b (x - 1) (y - 1) + one b (x + 1) (y - 1) : Nat) : Int) := wrapNN (by omega)
 have s3 : IntKind.i64.wrap ((one b x (y - 1) : Int) + (one b x (y + 1) : Int)) = ((one b x (y - 1) + one b x (y + 1) : Nat) : Int) := wrapNN (by omega)
 have s4 : IntKind.i64.wrap (((one b (x - 1) (y - 1) + one b (x + 1) (y - 1) : Nat) : Int) + (one b (x - 1) (y + 1) : Int)) = ((one b (x - 1) (y - 1) + one b (x + 1) (y - 1) + one b (x - 1) (y + 1) : Nat) : Int) := wrapNN (by omega)
 have s5 : IntKind.i64.wrap (((one b (x - 1) (y - 1) + one b (x + 1) (y - 1) + one b (x - 1) (y + 1) : Nat) : Int) + (one b (x + 1) (y + 1) : Int)) = ((one b (x - 1) (y - 1) + one b (x + 1) (y - 1) + one b (x - 1) (y + 1) + one b (x + 1) (y + 1) : Nat) : Int) := wrapNN (by omega)
 have s6 : IntKind.i64.wrap ((one b (x - 1) (y + 1) : Int) + (one b (x + 1) (y + 1) : Int)) = ((one b (x - 1) (y + 1) + one b (x + 1) (y + 1) : Nat) : Int) := wrapNN (by omega)
 have s7 : IntKind.i64.wrap (((one b (x - 1) (y - 1) + one b (x + 1) (y - 1) : Nat) : Int) + ((one b (x - 1) (y + 1) + one b (x + 1) (y + 1) : Nat) : Int)) = ((one b (x - 1) (y - 1) + one b (x + 1) (y - 1) + (one b (x - 1) (y + 1) + one b (x + 1) (y + 1)) : Nat) : Int) := wrapNN (by omega)
 have hassoc : one b (x - 1) (y - 1) + one b (x + 1) (y - 1) + one b (x - 1) (y + 1) + one b (x + 1) (y + 1) = one b (x - 1) (y - 1) + one b (x + 1) (y - 1) + (one b (x - 1) (y + 1) + one b (x + 1) (y + 1)) := by omega
 have hg : nbH b x y = one b (x - 1) y + one b (x + 1) y := rfl
 rw [enter182,B182]
 generalize e1 : one b (x - 1) y = o1 at *
 generalize e2 : one b (x + 1) y = o2 at *
 generalize e3 : one b x (y - 1) = o3 at *
 generalize e4 : one b x (y + 1) = o4 at *
 generalize e5 : one b (x - 1) (y - 1) = o5 at *
 generalize e6 : one b (x + 1) (y - 1) = o6 at *
 generalize e7 : one b (x - 1) (y + 1) = o7 at *
 generalize e8 : one b (x + 1) (y + 1) = o8 at *
 rw [hassoc] at s5
 cases q
 ·simp [-Int.natCast_add,k_guard,hlp,hlc,ha,hn,w1,w2,w3,w4,w5,e1,e2,e3,e4,e5,e6,e7,e8,s1,s2,s3,s4,s5,s6,s7,fin182,nbH,nbV,nbD]
 ·by_cases hy : y % 4 = 3
  ·have hy' : (y % 4 != 3) = false := by simp [hy]
   simp [-Int.natCast_add,k_guard,hlp,hlc,ha,hn,w1,w2,w3,w4,w5,e1,e2,e3,e4,e5,e6,e7,e8,s1,s2,s3,s4,s5,s6,s7,hy,hy',fin182,nbH,nbV,nbD]
  ·have hy' : (y % 4 != 3) = true := by simp [hy]
   simp [-Int.natCast_add,k_guard,hlp,hlc,ha,hn,w1,w2,w3,w4,w5,e1,e2,e3,e4,e5,e6,e7,e8,s1,s2,s3,s4,s5,s6,s7,hy,hy',fin182,nbH,nbV,nbD]
theorem signs_r (hb : CB h f p c b) (hi : b.inb x y) (q : Bool) : Ret tab 201 [ptr p,.int .i64 x,.int .i64 y,.bool q] h R = R (.tuple #[.int .i64 (sgH b x y),.int .i64 (sgV b x y q)]) h := by
 have hlp := blk?_lt hb.blkp
 have hlc := blk?_lt hb.blkc
 obtain ⟨w1,w2,w3,w4,w5⟩ := BS.wraps hb.ok hi
 have hn : ∀ x y R,Ret tab 209 [ptr p,.int .i64 x,.int .i64 y] (frz h) R = R (.int .i64 (sgn b x y)) (frz h) := fun x y R => sign_r hb.frz
 have ha := fun R => in_r hb.frz hi (R := R)
 have j1 : ∀ R,Ret tab 210 [.int .i64 (sgn b (x - 1) y),.int .i64 (sgn b (x + 1) y)] (frz h) R = R (.int .i64 (joint (sgn b (x - 1) y) (sgn b (x + 1) y))) (frz h) := fun R => contribution_r (sgn_range _ _ _) (sgn_range _ _ _)
 have j2 : ∀ R,Ret tab 210 [.int .i64 (sgn b x (y - 1)),.int .i64 (sgn b x (y + 1))] (frz h) R = R (.int .i64 (joint (sgn b x (y - 1)) (sgn b x (y + 1)))) (frz h) := fun R => contribution_r (sgn_range _ _ _) (sgn_range _ _ _)
 have j3 : ∀ R,Ret tab 210 [.int .i64 (sgn b x (y - 1)),.int .i64 0] (frz h) R = R (.int .i64 (joint (sgn b x (y - 1)) 0)) (frz h) := fun R => contribution_r (sgn_range _ _ _) (.inr (.inl rfl))
 rw [enter201,B201]
 cases q
 ·simp [k_guard,hlp,hlc,ha,hn,w1,w2,w3,w4,w5,j1,j2,j3,fin201,sgH,sgV]
 ·by_cases hy : y % 4 = 3
  ·have hy' : (y % 4 != 3) = false := by simp [hy]
   have hy2 : (y % 4 == 3) = true := by simp [hy]
   simp [k_guard,hlp,hlc,ha,hn,w1,w2,w3,w4,w5,hy,hy',hy2,j1,j2,j3,fin201,sgH,sgV]
  ·have hy' : (y % 4 != 3) = true := by simp [hy]
   have hy2 : (y % 4 == 3) = false := by simp [hy]
   simp [k_guard,hlp,hlc,ha,hn,w1,w2,w3,w4,w5,hy,hy',hy2,j1,j2,j3,fin201,sgH,sgV]
theorem set_r (hb : CB h false p c b) (hi : b.inb x y) {v : Int} (hv : -1152921504606846976 < v ∧ v < 1152921504606846976) : Ret tab 85 [ptr p,.int .i64 x,.int .i64 y,.int .i64 v] h R = R (.int .i64 0) (h.set c (some ⟨false,encC (b.upd x y fun z => { z with v := v }).cs⟩)) := by
 have hlp := blk?_lt hb.blkp
 have hp := hb.blkp
 have hc := hb.blkc
 have hl := BS.idx_lt hb.ok hi
 have hg := BS.getElem_in hb.ok hi
 obtain ⟨a1,a2,a3,a4⟩ := hb.at hi
 have h4 : b.idx x y * 4 + 1 ≤ (encC b.cs).length := by rw [encC_len]; omega
 have hset := encC_set1 hl (v := v)
 rw [hg] at hset
 rw [Int.natCast_mul] at a2
 rw [enter85,B85]
 simp [k_guard,hlp,error_r hb hi,hp,hc,a1,a2,h4,hset,show ¬ 1152921504606846976 ≤ v by omega,show ¬ v ≤ -1152921504606846976 by omega,fin85,BS.upd]
theorem mark_r (hb : CB h false p c b) (hi : b.inb x y) : Ret tab 203 [ptr p,.int .i64 x,.int .i64 y] h R = R (.int .i64 0) (h.set c (some ⟨false,encC (b.upd x y fun z => { z with s := true }).cs⟩)) := by
 have hlp := blk?_lt hb.blkp
 have hp := hb.blkp
 have hc := hb.blkc
 have hl := BS.idx_lt hb.ok hi
 have hg := BS.getElem_in hb.ok hi
 obtain ⟨a1,a2,a3,a4⟩ := hb.at hi
 have h4 : b.idx x y * 4 + 2 ≤ (encC b.cs).length := by rw [encC_len]; omega
 have hset := encC_set2 hl (b := true)
 rw [hg] at hset
 rw [Int.natCast_mul] at a2
 rw [enter203,B203]
 simp [k_guard,hlp,error_r hb hi,hp,hc,a1,a2,h4,hset,fin203,BS.upd]
theorem touch_r (hb : CB h false p c b) (hi : b.inb x y) {v : Bool} : Ret tab 155 [ptr p,.int .i64 x,.int .i64 y,.bool v] h R = R (.int .i64 0) (h.set c (some ⟨false,encC (b.upd x y fun z => { z with t := v }).cs⟩)) := by
 have hlp := blk?_lt hb.blkp
 have hp := hb.blkp
 have hc := hb.blkc
 have hl := BS.idx_lt hb.ok hi
 have hg := BS.getElem_in hb.ok hi
 obtain ⟨a1,a2,a3,a4⟩ := hb.at hi
 have h4 : b.idx x y * 4 + 3 ≤ (encC b.cs).length := by rw [encC_len]; omega
 have hset := encC_set3 hl (b := v)
 rw [hg] at hset
 rw [Int.natCast_mul] at a2
 rw [enter155,B155]
 simp [k_guard,hlp,error_r hb hi,hp,hc,a1,a2,h4,hset,fin155,BS.upd]
theorem refine_r (hb : CB h false p c b) (hi : b.inb x y) : Ret tab 159 [ptr p,.int .i64 x,.int .i64 y] h R = R (.int .i64 0) (h.set c (some ⟨false,encC (b.upd x y fun z => { z with r := true }).cs⟩)) := by
 have hlp := blk?_lt hb.blkp
 have hp := hb.blkp
 have hc := hb.blkc
 have hl := BS.idx_lt hb.ok hi
 have hg := BS.getElem_in hb.ok hi
 obtain ⟨a1,a2,a3,a4⟩ := hb.at hi
 have h4 : b.idx x y * 4 + 4 ≤ (encC b.cs).length := by rw [encC_len]; omega
 have hset := encC_set4 hl (b := true)
 rw [hg] at hset
 rw [Int.natCast_mul] at a2
 rw [enter159,B159]
 simp [k_guard,hlp,error_r hb hi,hp,hc,a1,a2,h4,hset,fin159,BS.upd]
end
def strt (p s d : Nat) : Nat := if p = 2 then 8 else if p = 1 then (if 0 < s then 7 else 5 + min d 1) else if 0 < s then 2 + s else min d 2
def diag (n d : Nat) : Nat := if 3 ≤ d then 8 else if d = 2 then 6 + min n 1 else 3 * d + min n 2
def sigCtx (o h v d : Nat) : Nat := if o = 3 then diag (h + v) d else if o = 1 then strt v h d else strt h v d
def signCtx (h v : Int) : Nat := if h < 0 ∨ h = 0 ∧ v < 0 then (9 - 3 * h - v).toNat else (9 + 3 * h + v).toNat
def signFlip (h v : Int) : Nat := if h < 0 ∨ h = 0 ∧ v < 0 then 1 else 0
def refCtx (first near : Bool) : Nat := if first = true then (if near = true then 15 else 14) else 16
section
variable {h : Heap} {R : Value → Heap → Prop}
theorem le2 {n : Nat} (h : n ≤ 2) : n = 0 ∨ n = 1 ∨ n = 2 := by omega
theorem le4 {n : Nat} (h : n ≤ 4) : n = 0 ∨ n = 1 ∨ n = 2 ∨ n = 3 ∨ n = 4 := by omega
theorem lim02 {d : Nat} (hd : d ≤ 2) : min (d : Int) 2 = (d : Int) := by omega
theorem lim04 {d : Nat} (hd : d ≤ 4) : min (d : Int) 4 = (d : Int) := by omega
theorem mm1 : min (-1 : Int) 1 = -1 := by decide
theorem mm2 : max (0 : Int) (-1) = 0 := by decide
theorem mm3 : max (1 : Int) (-1) = 1 := by decide
theorem mm4 : min (0 : Int) 1 = 0 := by decide
theorem mm5 : min (1 : Int) 1 = 1 := by decide
theorem straight_c {p s d : Nat} (hp : p ≤ 2) (hs : s ≤ 2) (hd : d ≤ 4) : Ret tab 194 [.int .i64 p,.int .i64 s,.int .i64 d] h R = R (.int .i64 (strt p s d)) h := by
 rw [enter194,B194]
 rcases le2 hp with rfl | rfl | rfl <;> rcases le2 hs with rfl | rfl | rfl <;> rcases le4 hd with rfl | rfl | rfl | rfl | rfl <;> (simp [k_guard,fold1,foldO,min2V,wrapI,fin194,strt]; try exact Iff.rfl)
theorem straight_r {p s d : Nat} (hp : p ≤ 2) (hs : s ≤ 2) (hd : d ≤ 4) : Ret tab 200 [.int .i64 p,.int .i64 s,.int .i64 d] h R = R (.int .i64 (strt p s d)) h := by
 rw [enter200,B200]
 rcases le2 hp with rfl | rfl | rfl <;> rcases le2 hs with rfl | rfl | rfl <;> rcases le4 hd with rfl | rfl | rfl | rfl | rfl <;> (simp [k_guard,fold1,foldO,min2V,wrapI,fin200,strt]; try exact Iff.rfl)
theorem diagonal_c {n d : Nat} (hn : n ≤ 4) (hd : d ≤ 4) : Ret tab 193 [.int .i64 n,.int .i64 d] h R = R (.int .i64 (diag n d)) h := by
 have hls : ∀ x : Option Blk,((frz h) ++ [x]).length = h.length + 1 := fun x => by simp
 have hnn : ∀ y : Blk,blk? (frz h ++ [some y]) h.length = some y := fun y => by
  have := blk?_push_eq (h := frz h) (x := some y)
  rwa [len_frz] at this
 rw [enter193,B193]
 rcases le4 hn with rfl | rfl | rfl | rfl | rfl <;> rcases le4 hd with rfl | rfl | rfl | rfl | rfl <;> (simp [hls,hnn,fold1,foldO,min2V,wrapI,fin193,diag]; try exact Iff.rfl)
theorem diagonal_r {n d : Nat} (hn : n ≤ 4) (hd : d ≤ 4) : Ret tab 199 [.int .i64 n,.int .i64 d] h R = R (.int .i64 (diag n d)) h := by
 rw [enter199,B199]
 rcases le4 hn with rfl | rfl | rfl | rfl | rfl <;> rcases le4 hd with rfl | rfl | rfl | rfl | rfl <;> (simp [fold1,foldO,min2V,wrapI,fin199,diag]; try exact Iff.rfl)
theorem significance_c {o a b d : Nat} (ho : o ≤ 3) (ha : a ≤ 2) (hb : b ≤ 2) (hd : d ≤ 4) : Ret tab 178 [.int .i64 o,.int .i64 a,.int .i64 b,.int .i64 d] h R = R (.int .i64 (sigCtx o a b d)) h := by
 have hs : IntKind.i64.wrap ((a : Int) + (b : Int)) = ((a + b : Nat) : Int) := wrapNN (by omega)
 have hdg := fun R => diagonal_c (h := frz h) (R := R) (n := a + b) (d := d) (by omega) hd
 have ho' : o = 0 ∨ o = 1 ∨ o = 2 ∨ o = 3 := by omega
 rw [enter178,B178]
 rcases ho' with rfl | rfl | rfl | rfl <;> simp [-Int.natCast_add,limit_c,lim02 ha,lim02 hb,lim04 hd,hs,hdg,straight_c ha hb hd,straight_c hb ha hd,fin178,sigCtx]
theorem significance_r {o a b d : Nat} (ho : o ≤ 3) (ha : a ≤ 2) (hb : b ≤ 2) (hd : d ≤ 4) : Ret tab 183 [.int .i64 o,.int .i64 a,.int .i64 b,.int .i64 d] h R = R (.int .i64 (sigCtx o a b d)) h := by
 have hs : IntKind.i64.wrap ((a : Int) + (b : Int)) = ((a + b : Nat) : Int) := wrapNN (by omega)
 have hdg := fun R => diagonal_r (h := frz h) (R := R) (n := a + b) (d := d) (by omega) hd
 have ho' : o = 0 ∨ o = 1 ∨ o = 2 ∨ o = 3 := by omega
 rw [enter183,B183]
 rcases ho' with rfl | rfl | rfl | rfl <;> simp [-Int.natCast_add,limit13_r,lim02 ha,lim02 hb,lim04 hd,hs,hdg,straight_r ha hb hd,straight_r hb ha hd,fin183,sigCtx]
theorem ctxSign_c {s t : Int} (hs : s = -1 ∨ s = 0 ∨ s = 1) (ht : t = -1 ∨ t = 0 ∨ t = 1) : Ret tab 179 [.int .i64 s,.int .i64 t] h R = R (.tuple #[.int .i64 (signCtx s t),.int .i64 (signFlip s t)]) h := by
 have hls : ∀ x : Option Blk,((frz h) ++ [x]).length = h.length + 1 := fun x => by simp
 have hnn : ∀ y : Blk,blk? (frz h ++ [some y]) h.length = some y := fun y => by
  have := blk?_push_eq (h := frz h) (x := some y)
  rwa [len_frz] at this
 rw [enter179,B179]
 rcases hs with rfl | rfl | rfl <;> rcases ht with rfl | rfl | rfl <;> (simp [k_guard,k_guardU,hls,hnn,limit_c,mm1,mm2,mm3,mm4,mm5,wrapI,fin179,signCtx,signFlip]; try exact Iff.rfl)
theorem ctxSign_r1 {s t : Int} (hs : s = -1 ∨ s = 0 ∨ s = 1) (ht : t = -1 ∨ t = 0 ∨ t = 1) (hn : ¬ (s < 0 ∨ s = 0 ∧ t < 0)) : Ret tab 202 [.int .i64 s,.int .i64 t] h R = R (.tuple #[.int .i64 (signCtx s t),.int .i64 0]) h := by
 rw [enter202,B202]
 rcases hs with rfl | rfl | rfl <;> rcases ht with rfl | rfl | rfl <;> first | exact absurd (by decide) hn | (simp [k_guard,k_guardU,limit13_r,mm1,mm2,mm3,mm4,mm5,wrapI,fin202,signCtx,signFlip]; try exact Iff.rfl)
theorem ctxSign_r {s t : Int} (hs : s = -1 ∨ s = 0 ∨ s = 1) (ht : t = -1 ∨ t = 0 ∨ t = 1) : Ret tab 202 [.int .i64 s,.int .i64 t] h R = R (.tuple #[.int .i64 (signCtx s t),.int .i64 (signFlip s t)]) h := by
 by_cases hn : s < 0 ∨ s = 0 ∧ t < 0
 ·have h1 := fun R => ctxSign_r1 (h := frz h) (R := R) (s := 0 - s) (t := 0 - t) (by omega) (by omega) (by omega)
  rw [enter202,B202]
  rcases hs with rfl | rfl | rfl <;> rcases ht with rfl | rfl | rfl <;> first | exact absurd hn (by decide) | (simp at h1; simp [k_guard,k_guardU,limit13_r,mm1,mm2,mm3,mm4,mm5,wrapI,h1,fin202,signCtx,signFlip]; try exact Iff.rfl)
 ·rw [ctxSign_r1 hs ht hn]
  simp [signFlip,hn]
theorem ctxRefine_c {a b : Bool} : Ret tab 144 [.bool a,.bool b] h R = R (.int .i64 (refCtx a b)) h := by
 rw [enter144,B144]
 cases a <;> cases b <;> simp [fin144,refCtx]
theorem ctxRefine_r {a b : Bool} : Ret tab 157 [.bool a,.bool b] h R = R (.int .i64 (refCtx a b)) h := by
 rw [enter157,B157]
 cases a <;> cases b <;> simp [fin157,refCtx]
end
def bitOf (v : Int) (s : Nat) : Nat := v.natAbs / 2 ^ s % 2
def near (b : BS) (x y : Int) (q : Bool) : Bool := decide (0 < nbH b x y + nbV b x y q + nbD b x y q)
structure PP where
 s : Nat
 o : Nat
 cz : Bool
 rw : Bool
structure PP.Ok (P : PP) : Prop where
 s1 : P.s ≤ 59
 o1 : P.o ≤ 3
structure ES where
 b : BS
 out : List (Int × Nat)
def ES.emit (P : PP) (σ : ES) (ctx : Int) (bit : Nat) : ES := ⟨σ.b,σ.out ++ [(if P.rw = true then -1 else ctx,bit)]⟩
def negOf (v : Int) : Nat := if v < 0 then 1 else 0
def signBit (P : PP) (b : BS) (x y : Int) : Nat := (negOf (b.get x y).v + if P.rw = true then 0 else signFlip (sgH b x y) (sgV b x y P.cz)) % 2
def mark (c : Cell) : Cell := { c with s := true }
def touch (v : Bool) (c : Cell) : Cell := { c with t := v }
def refine' (c : Cell) : Cell := { c with r := true }
def ES.map (σ : ES) (x y : Int) (f : Cell → Cell) : ES := ⟨σ.b.upd x y f,σ.out⟩
def ES.sign (P : PP) (σ : ES) (x y : Int) : ES := (σ.emit P (signCtx (sgH σ.b x y) (sgV σ.b x y P.cz)) (signBit P σ.b x y)).map x y mark
def ctxOf (P : PP) (b : BS) (x y : Int) : Nat := sigCtx P.o (nbH b x y) (nbV b x y P.cz) (nbD b x y P.cz)
def ES.code (P : PP) (σ : ES) (x y : Int) : ES :=
 if bitOf (σ.b.get x y).v P.s = 1 then (σ.emit P (ctxOf P σ.b x y) (bitOf (σ.b.get x y).v P.s)).sign P x y else σ.emit P (ctxOf P σ.b x y) (bitOf (σ.b.get x y).v P.s)
def ES.sig1 (P : PP) (σ : ES) (x y : Int) : ES :=
 if (σ.b.get x y).s = false ∧ near σ.b x y P.cz = true then (σ.code P x y).map x y (touch true) else σ
def ES.ref1 (P : PP) (σ : ES) (x y : Int) : ES :=
 if (σ.b.get x y).s = false ∨ (σ.b.get x y).t = true then σ
 else ((σ.emit P (refCtx (!(σ.b.get x y).r) (near σ.b x y P.cz)) (bitOf (σ.b.get x y).v P.s)).map x y refine').map x y (touch true)
def ES.cln1 (P : PP) (σ : ES) (x y : Int) : ES :=
 if (σ.b.get x y).s = false ∧ (σ.b.get x y).t = false then σ.code P x y else σ
def still (b : BS) (x y : Int) (q : Bool) : Bool := !(b.get x y).s && !(b.get x y).t && !near b x y q
def quietFrom (b : BS) (x y : Int) (q : Bool) : Nat → Bool
 | 0 => true
 | n + 1 => still b x y q && quietFrom b x (y + 1) q n
def quiet (b : BS) (x top : Int) (q : Bool) : Bool := decide (top + 4 ≤ b.h) && quietFrom b x top q 4
def firstBit (b : BS) (s : Nat) (x y : Int) : Nat → Option Nat
 | 0 => none
 | n + 1 => if bitOf (b.get x y).v s = 1 then some 0 else (firstBit b s x (y + 1) n).map (· + 1)
def ES.run (P : PP) (σ : ES) (x top : Int) : ES × Int :=
 match firstBit σ.b P.s x top 4 with
 | some k => ((((σ.emit P 17 1).emit P 18 (k / 2)).emit P 18 (k % 2)).sign P x (top + k),top + k + 1)
 | none => (σ.emit P 17 0,top + 4)
def ES.rows (P : PP) (σ : ES) (x y : Int) : Nat → ES
 | 0 => σ
 | n + 1 => (σ.cln1 P x y).rows P x (y + 1) n
def ES.col (P : PP) (σ : ES) (x top : Int) : ES :=
 if quiet σ.b x top P.cz = true then ((σ.run P x top).1).rows P x (σ.run P x top).2 (min (top + 4) σ.b.h - (σ.run P x top).2).toNat
 else σ.rows P x top (min (top + 4) σ.b.h - top).toNat
def ES.cols (P : PP) (σ : ES) (x top : Int) : Nat → ES
 | 0 => σ
 | n + 1 => (σ.col P x top).cols P (x + 1) top n
def ES.stripes (P : PP) (σ : ES) (top : Int) : Nat → ES
 | 0 => σ
 | n + 1 => (σ.cols P 0 top σ.b.w).stripes P (top + 4) n
def colPts (x y : Int) : Nat → List (Int × Int)
 | 0 => []
 | n + 1 => (x,y) :: colPts x (y + 1) n
def stripePts (h : Nat) (x top : Int) : Nat → List (Int × Int)
 | 0 => []
 | n + 1 => colPts x top (min (top + 4) h - top).toNat ++ stripePts h (x + 1) top n
def scanPts (w h : Nat) (top : Int) : Nat → List (Int × Int)
 | 0 => []
 | n + 1 => stripePts h 0 top w ++ scanPts w h (top + 4) n
def stripesOf (h : Nat) : Nat := (h + 3) / 4
def scan (w h : Nat) : List (Int × Int) := scanPts w h 0 (stripesOf h)
def ES.sigs (P : PP) (σ : ES) (l : List (Int × Int)) : ES := l.foldl (fun σ p => σ.sig1 P p.1 p.2) σ
def ES.refs (P : PP) (σ : ES) (l : List (Int × Int)) : ES := l.foldl (fun σ p => σ.ref1 P p.1 p.2) σ
def ES.clear (σ : ES) (l : List (Int × Int)) : ES := l.foldl (fun σ p => σ.map p.1 p.2 (touch false)) σ
def ES.check (P : PP) (σ : ES) (on : Bool) : ES := if on = true then (((σ.emit P 18 1).emit P 18 0).emit P 18 1).emit P 18 0 else σ
def ES.clean (P : PP) (σ : ES) (on : Bool) : ES := ((σ.stripes P 0 (stripesOf σ.b.h)).clear (scan σ.b.w σ.b.h)).check P on
structure Same (a b : BS) : Prop where
 w : a.w = b.w
 h : a.h = b.h
theorem Same.refl (a : BS) : Same a a := ⟨rfl,rfl⟩
theorem Same.trans {a b c : BS} (h : Same a b) (k : Same b c) : Same a c := ⟨h.w.trans k.w,h.h.trans k.h⟩
theorem Same.upd (b : BS) (x y : Int) (f : Cell → Cell) : Same (b.upd x y f) b := ⟨rfl,rfl⟩
def BS.Rng (b : BS) : Prop := ∀ x y,-1152921504606846976 < (b.get x y).v ∧ (b.get x y).v < 1152921504606846976
structure BS.Good (b : BS) : Prop where
 ok : b.Ok
 rng : b.Rng
def keepsV (f : Cell → Cell) : Prop := ∀ c,(f c).v = c.v
theorem BS.Good.upd {b : BS} (hg : b.Good) {x y : Int} (hi : b.inb x y) {f : Cell → Cell} (hf : keepsV f) : (b.upd x y f).Good := by
 refine ⟨hg.ok.upd x y f,fun x' y' => ?_⟩
 rw [BS.get_upd hg.ok hi]
 split
 ·rw [hf]; exact hg.rng x y
 ·exact hg.rng x' y'
theorem kv_mark : keepsV mark := fun _ => rfl
theorem kv_touch (v : Bool) : keepsV (touch v) := fun _ => rfl
theorem kv_refine : keepsV refine' := fun _ => rfl
theorem ES.emit_b (P : PP) (σ : ES) (c : Int) (n : Nat) : (σ.emit P c n).b = σ.b := rfl
theorem ES.map_b (σ : ES) (x y : Int) (f : Cell → Cell) : (σ.map x y f).b = σ.b.upd x y f := rfl
structure ES.Le (σ τ : ES) (n : Nat) : Prop where
 w : τ.b.w = σ.b.w
 h : τ.b.h = σ.b.h
 good : τ.b.Good
 len : τ.out.length ≤ σ.out.length + n
 v : ∀ x y,(τ.b.get x y).v = (σ.b.get x y).v
theorem ES.Le.refl {σ : ES} (hg : σ.b.Good) (n : Nat) : σ.Le σ n := ⟨rfl,rfl,hg,by omega,fun _ _ => rfl⟩
theorem ES.Le.trans {σ τ υ : ES} {n m : Nat} (h : σ.Le τ n) (k : τ.Le υ m) : σ.Le υ (n + m) := ⟨k.w.trans h.w,k.h.trans h.h,k.good,by have := h.len; have := k.len; omega,fun x y => (k.v x y).trans (h.v x y)⟩
theorem ES.Le.mono {σ τ : ES} {n m : Nat} (h : σ.Le τ n) (hm : n ≤ m) : σ.Le τ m := ⟨h.w,h.h,h.good,by have := h.len; omega,h.v⟩
theorem ES.Le.inb {σ τ : ES} {n : Nat} (h : σ.Le τ n) {x y : Int} (hi : σ.b.inb x y) : τ.b.inb x y := by
 obtain ⟨a,b,c,d⟩ := hi
 exact ⟨a,by rw [h.w]; exact b,c,by rw [h.h]; exact d⟩
theorem le_emit {P : PP} {σ : ES} (hg : σ.b.Good) (c : Int) (n : Nat) : σ.Le (σ.emit P c n) 1 := ⟨rfl,rfl,hg,by simp [ES.emit],fun _ _ => rfl⟩
theorem le_map {σ : ES} (hg : σ.b.Good) {x y : Int} (hi : σ.b.inb x y) {f : Cell → Cell} (hf : keepsV f) : σ.Le (σ.map x y f) 0 := by
 refine ⟨rfl,rfl,hg.upd hi hf,by simp [ES.map],fun x' y' => ?_⟩
 show ((σ.b.upd x y f).get x' y').v = _
 rw [BS.get_upd hg.ok hi]
 split
 ·rename_i e; obtain ⟨rfl,rfl⟩ := e; exact hf _
 ·rfl
theorem le_sign {P : PP} {σ : ES} (hg : σ.b.Good) {x y : Int} (hi : σ.b.inb x y) : σ.Le (σ.sign P x y) 1 := by
 have h1 := le_emit (P := P) hg (signCtx (sgH σ.b x y) (sgV σ.b x y P.cz)) (signBit P σ.b x y)
 exact h1.trans (le_map h1.good (h1.inb hi) kv_mark)
theorem le_code {P : PP} {σ : ES} (hg : σ.b.Good) {x y : Int} (hi : σ.b.inb x y) : σ.Le (σ.code P x y) 2 := by
 unfold ES.code
 have h1 := le_emit (P := P) hg (ctxOf P σ.b x y) (bitOf (σ.b.get x y).v P.s)
 split
 ·exact h1.trans (le_sign h1.good (h1.inb hi))
 ·exact h1.mono (by omega)
theorem le_sig1 {P : PP} {σ : ES} (hg : σ.b.Good) {x y : Int} (hi : σ.b.inb x y) : σ.Le (σ.sig1 P x y) 2 := by
 unfold ES.sig1
 split
 ·have h1 := le_code (P := P) hg hi
  exact h1.trans (le_map h1.good (h1.inb hi) (kv_touch _))
 ·exact ES.Le.refl hg 2
theorem le_ref1 {P : PP} {σ : ES} (hg : σ.b.Good) {x y : Int} (hi : σ.b.inb x y) : σ.Le (σ.ref1 P x y) 2 := by
 unfold ES.ref1
 split
 ·exact ES.Le.refl hg 2
 ·have h1 := le_emit (P := P) hg (refCtx (!(σ.b.get x y).r) (near σ.b x y P.cz)) (bitOf (σ.b.get x y).v P.s)
  have h2 := h1.trans (le_map h1.good (h1.inb hi) kv_refine)
  exact (h2.trans (le_map h2.good (h2.inb hi) (kv_touch true))).mono (by omega)
theorem le_cln1 {P : PP} {σ : ES} (hg : σ.b.Good) {x y : Int} (hi : σ.b.inb x y) : σ.Le (σ.cln1 P x y) 2 := by
 unfold ES.cln1
 split
 ·exact le_code hg hi
 ·exact ES.Le.refl hg 2
theorem firstBit_lt {b : BS} {s : Nat} {x : Int} : ∀ {n : Nat} {y : Int} {k : Nat},firstBit b s x y n = some k → k < n
 | 0,_,_,h => by simp [firstBit] at h
 | n + 1,y,k,h => by
  simp only [firstBit] at h
  split at h
  ·injection h with h; omega
  ·rw [Option.map_eq_some_iff] at h
   obtain ⟨j,hj,rfl⟩ := h
   have := firstBit_lt hj
   omega
theorem le_run {P : PP} {σ : ES} (hg : σ.b.Good) {x top : Int} (h0 : σ.b.inb x top) (h1 : top + 4 ≤ σ.b.h) : σ.Le (σ.run P x top).1 4 ∧ top < (σ.run P x top).2 ∧ (σ.run P x top).2 ≤ top + 4 := by
 unfold ES.run
 split
 ·rename_i k hk
  have hlt := firstBit_lt hk
  have a1 := le_emit (P := P) hg 17 1
  have a2 := a1.trans (le_emit (P := P) a1.good 18 (k / 2))
  have a3 := a2.trans (le_emit (P := P) a2.good 18 (k % 2))
  refine ⟨a3.trans (le_sign a3.good (a3.inb ?_)),by simp only; omega,by simp only; omega⟩
  obtain ⟨a,b,c,d⟩ := h0
  exact ⟨a,b,by omega,by omega⟩
 ·exact ⟨(le_emit hg 17 0).mono (by omega),by simp only; omega,by simp only; omega⟩
theorem le_rows {P : PP} : ∀ {n : Nat} {σ : ES} {x y : Int},σ.b.Good → 0 ≤ x → x < σ.b.w → 0 ≤ y → y + n ≤ σ.b.h → σ.Le (σ.rows P x y n) (2 * n)
 | 0,σ,x,y,hg,_,_,_,_ => ES.Le.refl hg _
 | n + 1,σ,x,y,hg,h1,h2,h3,h4 => by
  have a := le_cln1 (P := P) hg (x := x) (y := y) ⟨h1,h2,h3,by omega⟩
  have b := le_rows (P := P) (n := n) (x := x) (y := y + 1) a.good h1 (by rw [a.w]; exact h2) (by omega) (by rw [a.h]; omega)
  exact (a.trans b).mono (by omega)
theorem le_col {P : PP} {σ : ES} (hg : σ.b.Good) {x top : Int} (hi : σ.b.inb x top) : σ.Le (σ.col P x top) 12 := by
 obtain ⟨h1,h2,h3,h4⟩ := hi
 unfold ES.col
 split
 ·rename_i hq
  simp only [quiet,Bool.and_eq_true,decide_eq_true_eq] at hq
  obtain ⟨a,b,c⟩ := le_run (P := P) hg (x := x) (top := top) ⟨h1,h2,h3,h4⟩ hq.1
  refine (a.trans (le_rows (P := P) (n := (min (top + 4) σ.b.h - (σ.run P x top).2).toNat) a.good h1 (by rw [a.w]; exact h2) (by omega) (by rw [a.h]; omega))).mono (by omega)
 ·exact (le_rows hg h1 h2 h3 (by omega)).mono (by omega)
theorem le_cols {P : PP} : ∀ {n : Nat} {σ : ES} {x top : Int},σ.b.Good → 0 ≤ x → x + n ≤ σ.b.w → 0 ≤ top → top < σ.b.h → σ.Le (σ.cols P x top n) (12 * n)
 | 0,σ,x,top,hg,_,_,_,_ => ES.Le.refl hg _
 | n + 1,σ,x,top,hg,h1,h2,h3,h4 => by
  have a := le_col (P := P) hg (x := x) (top := top) ⟨h1,by omega,h3,h4⟩
  have b := le_cols (P := P) (n := n) (x := x + 1) (top := top) a.good (by omega) (by rw [a.w]; omega) h3 (by rw [a.h]; exact h4)
  exact (a.trans b).mono (by omega)
theorem le_stripes {P : PP} : ∀ {n : Nat} {σ : ES} {top : Int},σ.b.Good → 0 ≤ top → top + 4 * n ≤ σ.b.h + 3 → σ.Le (σ.stripes P top n) (12 * σ.b.w * n)
 | 0,σ,top,hg,_,_ => ES.Le.refl hg _
 | n + 1,σ,top,hg,h1,h2 => by
  have a := le_cols (P := P) (n := σ.b.w) hg (x := 0) (top := top) (by omega) (by omega) h1 (by omega)
  have b := le_stripes (P := P) (n := n) (top := top + 4) a.good (by omega) (by rw [a.h]; omega)
  rw [a.w] at b
  exact (a.trans b).mono (by rw [Nat.mul_add]; omega)
def AllIn (b : BS) (l : List (Int × Int)) : Prop := ∀ p ∈ l,b.inb p.1 p.2
theorem AllIn.le {σ τ : ES} {n : Nat} {l : List (Int × Int)} (h : AllIn σ.b l) (k : σ.Le τ n) : AllIn τ.b l := fun p hp => k.inb (h p hp)
theorem colPts_in {b : BS} : ∀ {n : Nat} {x y : Int},0 ≤ x → x < b.w → 0 ≤ y → y + n ≤ b.h → AllIn b (colPts x y n)
 | 0,x,y,_,_,_,_ => fun p hp => by simp [colPts] at hp
 | n + 1,x,y,h1,h2,h3,h4 => fun p hp => by
  simp only [colPts,List.mem_cons] at hp
  rcases hp with rfl | hp
  ·exact ⟨h1,h2,h3,by simp only; omega⟩
  ·exact colPts_in h1 h2 (by omega) (by omega) p hp
theorem stripePts_in {b : BS} : ∀ {n : Nat} {x top : Int},0 ≤ x → x + n ≤ b.w → 0 ≤ top → AllIn b (stripePts b.h x top n)
 | 0,x,top,_,_,_ => fun p hp => by simp [stripePts] at hp
 | n + 1,x,top,h1,h2,h3 => fun p hp => by
  simp only [stripePts,List.mem_append] at hp
  rcases hp with hp | hp
  ·by_cases ht : top ≤ b.h
   ·exact colPts_in h1 (by omega) h3 (by omega) p hp
   ·rw [show (min (top + 4) (b.h : Int) - top).toNat = 0 by omega] at hp
    simp [colPts] at hp
  ·exact stripePts_in (by omega) (by omega) h3 p hp
theorem scanPts_in {b : BS} : ∀ {n : Nat} {top : Int},0 ≤ top → AllIn b (scanPts b.w b.h top n)
 | 0,top,_ => fun p hp => by simp [scanPts] at hp
 | n + 1,top,h => fun p hp => by
  simp only [scanPts,List.mem_append] at hp
  rcases hp with hp | hp
  ·exact stripePts_in (by omega) (by omega) h p hp
  ·exact scanPts_in (by omega) p hp
theorem scanIn (b : BS) : AllIn b (scan b.w b.h) := scanPts_in (by omega)
theorem colPts_len : ∀ (n : Nat) (x y : Int),(colPts x y n).length = n
 | 0,_,_ => rfl
 | n + 1,x,y => by rw [colPts,List.length_cons,colPts_len n]
theorem stripePts_len (h : Nat) : ∀ (n : Nat) (x top : Int),(stripePts h x top n).length ≤ 4 * n
 | 0,_,_ => by simp [stripePts]
 | n + 1,x,top => by
  rw [stripePts,List.length_append,colPts_len]
  have := stripePts_len h n (x + 1) top
  omega
theorem scanPts_len (w h : Nat) : ∀ (n : Nat) (top : Int),(scanPts w h top n).length ≤ 4 * w * n
 | 0,_ => by simp [scanPts]
 | n + 1,top => by
  rw [scanPts,List.length_append]
  have := stripePts_len h w 0 top
  have := scanPts_len w h n (top + 4)
  rw [Nat.mul_add]; omega
theorem le_fold {f : ES → Int × Int → ES} {m : Nat} (hf : ∀ (σ : ES) (p : Int × Int),σ.b.Good → σ.b.inb p.1 p.2 → σ.Le (f σ p) m) : ∀ {l : List (Int × Int)} {σ : ES},σ.b.Good → AllIn σ.b l → σ.Le (l.foldl f σ) (m * l.length)
 | [],σ,hg,_ => ES.Le.refl hg _
 | p :: l,σ,hg,ha => by
  have a := hf σ p hg (ha p (by simp))
  have b := le_fold hf (l := l) (σ := f σ p) a.good (AllIn.le (fun q hq => ha q (by simp [hq])) a)
  rw [List.foldl_cons,List.length_cons]
  exact (a.trans b).mono (by rw [Nat.mul_add]; omega)
theorem le_sigs {P : PP} {σ : ES} {l : List (Int × Int)} (hg : σ.b.Good) (ha : AllIn σ.b l) : σ.Le (σ.sigs P l) (2 * l.length) := le_fold (fun _ _ hg hi => le_sig1 hg hi) hg ha
theorem le_refs {P : PP} {σ : ES} {l : List (Int × Int)} (hg : σ.b.Good) (ha : AllIn σ.b l) : σ.Le (σ.refs P l) (2 * l.length) := le_fold (fun _ _ hg hi => le_ref1 hg hi) hg ha
theorem le_clear {σ : ES} {l : List (Int × Int)} (hg : σ.b.Good) (ha : AllIn σ.b l) : σ.Le (σ.clear l) 0 := (le_fold (m := 0) (fun _ _ hg hi => le_map hg hi (kv_touch false)) hg ha).mono (by omega)
theorem near_eq (b : BS) (x y : Int) (k : Bool) : near b x y k = decide (0 < nbH b x y + nbV b x y k + nbD b x y k) := rfl
theorem nb_le (b : BS) (x y : Int) (k : Bool) : nbH b x y ≤ 2 ∧ nbV b x y k ≤ 2 ∧ nbD b x y k ≤ 4 := by
 obtain ⟨⟨a1,a2,a3,a4⟩,⟨b1,b2,b3,b4⟩⟩ := nb_facts b x y
 unfold nbH nbV nbD
 refine ⟨by omega,?_,?_⟩ <;> split <;> omega
structure PR (h : Heap) (f : Bool) (q p c : Nat) (P : PP) (fv : Value) (b : BS) : Prop where
 blk : blk? h q = some ⟨f,[ptr p,.int .i64 b.w,.int .i64 b.h,.int .i64 P.s,.int .i64 P.o,.bool P.cz,.bool P.rw,fv]⟩
 cb : CB h f p c b
 fv : below h.length fv = true
 pok : P.Ok
 rng : b.Rng
theorem PR.frz {h : Heap} {f : Bool} {q p c : Nat} {P : PP} {fv : Value} {b : BS} (hr : PR h f q p c P fv b) : PR (frz h) true q p c P fv b :=
 ⟨blk_frz hr.blk (by simp [hr.fv,blk?_lt hr.cb.blkp]),hr.cb.frz,by rw [len_frz]; exact hr.fv,hr.pok,hr.rng⟩
theorem and1 {a : Nat} (h : a < 9223372036854775808) : andI .i64 (a : Int) 1 = ((a % 2 : Nat) : Int) := by
 unfold andI
 have h1 : (BitVec.ofInt IntKind.i64.bits (a : Int)).toNat = a := ofInt_u64 a (by omega)
 rw [BitVec.toNat_and,h1,show (BitVec.ofInt IntKind.i64.bits 1).toNat = 1 from rfl,nat_mask1]
 exact wrapN (by omega)
theorem and1u {a : Nat} (h : a < 18446744073709551616) : andI .u64 (a : Int) 1 = ((a % 2 : Nat) : Int) := by
 unfold andI
 have h1 : (BitVec.ofInt IntKind.u64.bits (a : Int)).toNat = a := ofInt_u64 a (by omega)
 rw [BitVec.toNat_and,h1,show (BitVec.ofInt IntKind.u64.bits 1).toNat = 1 from rfl,nat_mask1,IntKind.wrap_u64]
 omega
theorem natAbs_wrap {v : Int} (h1 : v < 0) (h2 : -9223372036854775808 ≤ v) : IntKind.u64.wrap (0 - IntKind.u64.wrap v) = (v.natAbs : Int) := by
 rw [IntKind.wrap_u64,IntKind.wrap_u64]; omega
theorem natAbs_wrap0 {v : Int} (h1 : ¬ v < 0) (h2 : v < 9223372036854775808) : IntKind.u64.wrap v = (v.natAbs : Int) := by
 rw [IntKind.wrap_u64]; omega
theorem wrapU {n : Nat} (h : n < 18446744073709551616) : IntKind.u64.wrap (n : Int) = n := by
 rw [IntKind.wrap_u64]; omega
theorem shr_le {a s : Nat} : a / 2 ^ s ≤ a := Nat.div_le_self _ _
section
variable {h : Heap} {f : Bool} {q p c : Nat} {P : PP} {fv : Value} {b : BS} {x y : Int} {R : Value → Heap → Prop}
theorem magnitude_c {v : Int} (h1 : -9223372036854775808 ≤ v) (h2 : v < 9223372036854775808) : Ret tab 82 [.int .i64 v] h R = R (.int .u64 (v.natAbs : Nat)) h := by
 rw [enter82,B82]
 by_cases hv : v < 0
 ·have := natAbs_wrap hv h1
  rw [Int.zero_sub] at this
  simp [hv,this,fin82]
 ·simp [hv,natAbs_wrap0 hv h2,fin82]
theorem bit_c (hr : PR h f q p c P fv b) : Ret tab 164 [ptr q,.int .i64 x,.int .i64 y] h R = R (.int .i64 (bitOf (b.get x y).v P.s)) h := by
 have hq := hr.frz.blk
 have hlq := blk?_lt hr.blk
 obtain ⟨r1,r2⟩ := hr.rng x y
 have hm := fun R => magnitude_c (h := Go.Sim.frz h) (R := R) (v := (b.get x y).v) (by omega) (by omega)
 have hs := hr.pok.s1
 have hw : IntKind.u64.wrap (P.s : Int) = (P.s : Int) := wrapU (by omega)
 have hs' : ¬ (P.s : Int) < 0 := by omega
 have hsh : shrI .u64 ((b.get x y).v.natAbs : Int) (P.s : Int) = (((b.get x y).v.natAbs / 2 ^ P.s : Nat) : Int) := shrN (show P.s ≤ 64 by omega)
 have hle : (b.get x y).v.natAbs / 2 ^ P.s ≤ (b.get x y).v.natAbs := shr_le
 have h63 : (b.get x y).v.natAbs < 9223372036854775808 := by omega
 have hwi : IntKind.i64.wrap (((b.get x y).v.natAbs / 2 ^ P.s : Nat) : Int) = (((b.get x y).v.natAbs / 2 ^ P.s : Nat) : Int) := wrapN (by omega)
 have ha := and1 (a := (b.get x y).v.natAbs / 2 ^ P.s) (by omega)
 rw [enter164,B164]
 unfold bitOf
 have hv : ∀ R,Ret tab 64 [ptr p,.int .i64 x,.int .i64 y] (Go.Sim.frz h) R = R (.int .i64 (b.get x y).v) (Go.Sim.frz h) := fun R => value_c hr.frz.cb
 generalize hn : (b.get x y).v.natAbs / 2 ^ P.s = n at *
 generalize (b.get x y).v.natAbs = na at *
 simp [-Int.natCast_ediv,-Int.natCast_emod,hq,hlq,hv,hm,hw,hs',hsh,hwi,ha,fin164,book,logOf,addLog,chk1,lookL,reload]
theorem neighbors_p (hr : PR h f q p c P fv b) (hi : b.inb x y) : Ret tab 162 [ptr q,.int .i64 x,.int .i64 y] h R = R (.bool (near b x y P.cz)) h := by
 have hq := hr.frz.blk
 have hlq := blk?_lt hr.blk
 obtain ⟨n1,n2,n3⟩ := nb_le b x y P.cz
 have s1 : IntKind.i64.wrap ((nbH b x y : Int) + (nbV b x y P.cz : Int)) = ((nbH b x y + nbV b x y P.cz : Nat) : Int) := wrapNN (by omega)
 have s2 : IntKind.i64.wrap (((nbH b x y + nbV b x y P.cz : Nat) : Int) + (nbD b x y P.cz : Int)) = ((nbH b x y + nbV b x y P.cz + nbD b x y P.cz : Nat) : Int) := wrapNN (by omega)
 have s3 : decide ((0 : Int) < ((nbH b x y + nbV b x y P.cz + nbD b x y P.cz : Nat) : Int)) = near b x y P.cz := by
  rw [near_eq]; congr 1; exact propext Int.natCast_pos
 rw [enter162,B162]
 generalize hn : near b x y P.cz = nn at *
 simp [-Int.natCast_add,-Int.natCast_pos,hq,hlq,neighbors_c hr.frz.cb hi,s1,s2,s3,fin162]
theorem quiet_loop (hr : PR h true q p c P fv b) {x : Int} (hx : 0 ≤ x ∧ x < b.w) {top : Int} (ht : 0 ≤ top ∧ top + 4 ≤ b.h) {k : List RItem} {R : Value → Heap → Prop} {v6 : Value}
  (hk : ∀ K3 K4 K5 K7 K8 K9 Ka Kb Kc Kd Ke Kf Kg Kh Ki Kj Kk Kl Km Kn Ko Kp Kq Kr Ks Kt Ku Kv Kw Kx Ky Kz J0 J1 J2 J3 J4 J5 J6 J7 : Value,Ok tab R165 k #[ptr q,.int .i64 x,.int .i64 top,K3,K4,K5,v6,K7,K8,K9,Ka,Kb,Kc,Kd,Ke,Kf,Kg,Kh,Ki,Kj,Kk,Kl,Km,Kn,Ko,Kp,Kq,Kr,Ks,Kt,Ku,Kv,Kw,Kx,Ky,Kz,J0,J1,J2,J3,J4,J5,J6,J7] h R = R (.bool true) h) :
  ∀ (n : Nat) (y : Int) (K3 K4 K5 K8 K9 Ka Kb Kc Kd Ke Kf Kg Kh Ki Kj Kk Kl Km Kn Ko Kp Kq Kr Ks Kt Ku Kv Kw Kx Ky Kz J0 J1 J2 J3 J4 J5 J6 J7 : Value),y + n = top + 4 → top ≤ y →
   Ok tab R165 (.inLoop L165_0 :: .inBlock 0 :: k) #[ptr q,.int .i64 x,.int .i64 top,K3,K4,K5,v6,.int .i64 y,K8,K9,Ka,Kb,Kc,Kd,Ke,Kf,Kg,Kh,Ki,Kj,Kk,Kl,Km,Kn,Ko,Kp,Kq,Kr,Ks,Kt,Ku,Kv,Kw,Kx,Ky,Kz,J0,J1,J2,J3,J4,J5,J6,J7] h R = R (.bool (quietFrom b x y P.cz n)) h := by
 intro n
 induction n with
 | zero =>
  intro y;intros;rename_i hy hty
  have hw : IntKind.i64.wrap (top + 4) = top + 4 := wrapI (by have := hr.cb.ok.h2; omega) (by have := hr.cb.ok.h2; omega)
  have hlt : ¬ y < top + 4 := by omega
  rw [ok_round,l165_0,L165_0a,L165_0b]
  simp [hw,hlt,hk,quietFrom]
 | succ n ih =>
  intro y;intros;rename_i hy hty
  have hb2 := hr.cb.ok.h2
  have hw : IntKind.i64.wrap (top + 4) = top + 4 := wrapI (by omega) (by omega)
  have hw1 : IntKind.i64.wrap (y + 1) = y + 1 := wrapI (by omega) (by omega)
  have hlt : y < top + 4 := by omega
  have hi : b.inb x y := ⟨hx.1,hx.2,by omega,by omega⟩
  have hq := hr.blk
  have ih' := fun K3 K4 K5 K8 K9 Ka Kb Kc Kd Ke Kf Kg Kh Ki Kj Kk Kl Km Kn Ko Kp Kq Kr Ks Kt Ku Kv Kw Kx Ky Kz J0 J1 J2 J3 J4 J5 J6 J7 => ih (y + 1) K3 K4 K5 K8 K9 Ka Kb Kc Kd Ke Kf Kg Kh Ki Kj Kk Kl Km Kn Ko Kp Kq Kr Ks Kt Ku Kv Kw Kx Ky Kz J0 J1 J2 J3 J4 J5 J6 J7 (by omega) (by omega)
  rw [ok_round,l165_0,L165_0a,L165_0b]
  cases hs : (b.get x y).s
  ·cases ht : (b.get x y).t
   ·cases hn : near b x y P.cz
    ·simp [k_guard,hw,hw1,hlt,hq,significant_c hr.cb,touched_c hr.cb,neighbors_p hr hi,hs,ht,hn,ih',quietFrom,still]
    ·simp [k_guard,hw,hw1,hlt,hq,significant_c hr.cb,touched_c hr.cb,neighbors_p hr hi,hs,ht,hn,quietFrom,still,fin165]
   ·simp [k_guard,k_guardU,hw,hw1,hlt,hq,significant_c hr.cb,touched_c hr.cb,hs,ht,quietFrom,still,fin165]
  ·simp [k_guard,k_guardU,hw,hw1,hlt,hq,significant_c hr.cb,hs,quietFrom,still,fin165]
theorem quiet_p (hr : PR h f q p c P fv b) {x top : Int} (hx : 0 ≤ x ∧ x < b.w) (ht : 0 ≤ top ∧ top < b.h) : Ret tab 165 [ptr q,.int .i64 x,.int .i64 top] h R = R (.bool (quiet b x top P.cz)) h := by
 have hq := hr.frz.blk
 have hlq := blk?_lt hr.blk
 have hb2 := hr.cb.ok.h2
 have hw : IntKind.i64.wrap (top + 4) = top + 4 := wrapI (by omega) (by omega)
 rw [enter165,B165]
 by_cases h4 : top + 4 ≤ b.h
 ·have h4' : ¬ (b.h : Int) < top + 4 := by omega
  have := fun K3 K4 K5 K8 K9 Ka Kb Kc Kd Ke Kf Kg Kh Ki Kj Kk Kl Km Kn Ko Kp Kq Kr Ks Kt Ku Kv Kw Kx Ky Kz J0 J1 J2 J3 J4 J5 J6 J7 v6 R hk => quiet_loop (R := R) (v6 := v6) hr.frz hx ⟨ht.1,h4⟩ (k := [.code ((RCode.region [⟨some 6,.mov (.const (.bool true)),none⟩] []).seq .ret)]) hk 4 top K3 K4 K5 K8 K9 Ka Kb Kc Kd Ke Kf Kg Kh Ki Kj Kk Kl Km Kn Ko Kp Kq Kr Ks Kt Ku Kv Kw Kx Ky Kz J0 J1 J2 J3 J4 J5 J6 J7 (by omega) (by omega)
  simp [hq,hlq,hw,h4']
  rw [this]
  ·simp [quiet,h4]
  ·intros
   simp [fin165]
 ·have h4' : (b.h : Int) < top + 4 := by omega
  simp [hq,hlq,hw,h4',quiet,h4,fin165]
end
def encS : List (Int × Nat) → List Value
 | [] => []
 | p :: l => .int .i64 p.1 :: .int .i64 p.2 :: encS l
theorem encS_append : ∀ a b,encS (a ++ b) = encS a ++ encS b
 | [],b => rfl
 | p :: a,b => by rw [List.cons_append,encS,encS,encS_append a b]; rfl
theorem encS_len : ∀ a,(encS a).length = a.length * 2
 | [] => rfl
 | p :: a => by rw [encS,List.length_cons,List.length_cons,encS_len a,List.length_cons]; omega
structure PE (h : Heap) (q p c pb ob : Nat) (P : PP) (sv : Value) (σ : ES) : Prop where
 pr : PR h false q p c P (.func (.func 123) #[] #[ptr pb,ptr ob]) σ.b
 pbk : blk? h pb = some ⟨false,[ptr q]⟩
 obk : blk? h ob = some ⟨false,[sv]⟩
 own : OwnS h 2 sv σ.out.length (encS σ.out)
 n1 : c ≠ q ∧ c ≠ pb ∧ c ≠ ob ∧ c ≠ p
 n2 : ob ≠ q ∧ ob ≠ pb ∧ ob ≠ p
 n3 : sid sv ≠ some q ∧ sid sv ≠ some p ∧ sid sv ≠ some c ∧ sid sv ≠ some pb ∧ sid sv ≠ some ob
structure Stp (h h' : Heap) (c ob : Nat) (sv sv' : Value) : Prop where
 len : h.length ≤ h'.length
 same : ∀ id,id < h.length → id ≠ c → id ≠ ob → sid sv ≠ some id → blk? h' id = blk? h id
 fresh : ∀ id,sid sv' = some id → sid sv = some id ∨ (h.length ≤ id ∧ id < h'.length)
theorem Stp.refl (h : Heap) (c ob : Nat) (sv : Value) : Stp h h c ob sv sv := ⟨Nat.le_refl _,fun _ _ _ _ _ => rfl,fun _ h => .inl h⟩
theorem Stp.trans {h h1 h2 : Heap} {c ob : Nat} {sv sv1 sv2 : Value} (a : Stp h h1 c ob sv sv1) (b : Stp h1 h2 c ob sv1 sv2) : Stp h h2 c ob sv sv2 := by
 refine ⟨Nat.le_trans a.len b.len,fun id h1 h2 h3 h4 => ?_,fun id hid => ?_⟩
 ·rw [b.same id (Nat.lt_of_lt_of_le h1 a.len) h2 h3 (fun e => ?_),a.same id h1 h2 h3 h4]
  rcases a.fresh id e with h | h
  ·exact h4 h
  ·omega
 ·rcases b.fresh id hid with h | h
  ·rcases a.fresh id h with h | h
   ·exact .inl h
   ·exact .inr ⟨h.1,Nat.lt_of_lt_of_le h.2 b.len⟩
  ·exact .inr ⟨Nat.le_trans a.len h.1,h.2⟩
theorem Stp.push (h : Heap) (x : Option Blk) (c ob : Nat) (sv : Value) : Stp h (h ++ [x]) c ob sv sv := ⟨by simp,fun id h1 _ _ _ => blk?_push_lt h1,fun _ h => .inl h⟩
theorem PR.keep {h h' : Heap} {q p c : Nat} {P : PP} {fv : Value} {b : BS} (hr : PR h false q p c P fv b) (hk : ∀ id,id = q ∨ id = p ∨ id = c → blk? h' id = blk? h id) (hf : below h'.length fv = true) : PR h' false q p c P fv b :=
 ⟨by rw [hk q (.inl rfl)]; exact hr.blk,⟨by rw [hk p (.inr (.inl rfl))]; exact hr.cb.blkp,by rw [hk c (.inr (.inr rfl))]; exact hr.cb.blkc,hr.cb.ok⟩,hf,hr.pok,hr.rng⟩
section
variable {h : Heap} {q p c pb ob : Nat} {P : PP} {sv : Value} {σ : ES}
theorem PE.lts (he : PE h q p c pb ob P sv σ) : q < h.length ∧ p < h.length ∧ c < h.length ∧ pb < h.length ∧ ob < h.length :=
 ⟨blk?_lt he.pr.blk,blk?_lt he.pr.cb.blkp,blk?_lt he.pr.cb.blkc,blk?_lt he.pbk,blk?_lt he.obk⟩
theorem PE.push (he : PE h q p c pb ob P sv σ) (x : Option Blk) : PE (h ++ [x]) q p c pb ob P sv σ := by
 obtain ⟨l1,l2,l3,l4,l5⟩ := he.lts
 refine ⟨he.pr.keep (fun id hid => ?_) (by simp; omega),blk?_push he.pbk,blk?_push he.obk,he.own.of_blk (fun id _ hb => blk?_push hb),he.n1,he.n2,he.n3⟩
 rcases hid with rfl | rfl | rfl <;> exact blk?_push_lt (by assumption)
theorem PE.map (he : PE h q p c pb ob P sv σ) {x y : Int} (hi : σ.b.inb x y) {f : Cell → Cell} (hf : keepsV f) :
  PE (h.set c (some ⟨false,encC (σ.b.upd x y f).cs⟩)) q p c pb ob P sv (σ.map x y f) ∧ Stp h (h.set c (some ⟨false,encC (σ.b.upd x y f).cs⟩)) c ob sv sv := by
 obtain ⟨l1,l2,l3,l4,l5⟩ := he.lts
 obtain ⟨m1,m2,m3,m4⟩ := he.n1
 have hg : (σ.b.upd x y f).Good := BS.Good.upd ⟨he.pr.cb.ok,he.pr.rng⟩ hi hf
 refine ⟨⟨⟨?_,?_,by have := he.pr.fv; simpa using this,he.pr.pok,hg.rng⟩,?_,?_,he.own.of_blk (fun id hid hb => ?_),he.n1,he.n2,he.n3⟩,⟨by simp,fun id _ hc _ _ => blk?_set_ne (Ne.symm hc),fun _ h => .inl h⟩⟩
 ·rw [blk?_set_ne m1]; exact he.pr.blk
 ·exact he.pr.cb.set rfl rfl hg.ok
 ·rw [blk?_set_ne m2]; exact he.pbk
 ·rw [blk?_set_ne m3]; exact he.obk
 ·rw [blk?_set_ne (fun e => he.n3.2.2.1 (by rw [e]; exact hid))]; exact hb
theorem emit_c (he : PE h q p c pb ob P sv σ) (hn : σ.out.length < 1000000) (ctx : Int) (bit : Nat) :
  ∃ sv' h',(∀ R,Ret tab 123 [.int .i64 ctx,.int .i64 bit,ptr pb,ptr ob] h R = R (.tuple #[]) h') ∧ PE h' q p c pb ob P sv' (σ.emit P ctx bit) ∧ Stp h h' c ob sv sv' := by
 obtain ⟨l1,l2,l3,l4,l5⟩ := he.lts
 obtain ⟨m1,m2,m3,m4⟩ := he.n1
 obtain ⟨m5,m6,m7⟩ := he.n2
 obtain ⟨m8,m9,m10,m11,m12⟩ := he.n3
 generalize hcx : (if P.rw = true then (-1 : Int) else ctx) = cx
 have hsl : Sl (h ++ [some ⟨false,[.int .i64 cx,.int .i64 bit]⟩]) 2 (.slice (some ⟨h.length,0,none⟩) 1 2) 1 [.int .i64 cx,.int .i64 bit] :=
  ⟨by simp,.inr ⟨h.length,0,rfl,.inr ⟨_,blk?_push_eq,by simp,by simp⟩⟩⟩
 have hp := he.push (some ⟨false,[.int .i64 cx,.int .i64 bit]⟩)
 obtain ⟨H,ha,hK,hHl,hHs⟩ := own_append (bytes := 16) hp.own hsl (by unfold roomCells; omega) (by omega) (by omega)
 simp only [List.length_append,List.length_singleton] at ha hK hHl hHs
 have hk : ∀ id,id < h.length → sid sv ≠ some id → blk? H id = blk? h id := fun id hid hne => by rw [hHs id (by omega) hne,blk?_push_lt hid]
 have hHo : blk? H ob = some ⟨false,[sv]⟩ := by rw [hk ob l5 m12]; exact he.obk
 have hloH := blk?_lt hHo
 refine ⟨.slice (some ⟨h.length + 1,0,none⟩) (σ.out.length + 1) 2,H.set ob (some ⟨false,[.slice (some ⟨h.length + 1,0,none⟩) (σ.out.length + 1) 2]⟩),fun R => ?_,⟨he.pr.keep (fun id hid => ?_) ?_,?_,?_,?_,he.n1,he.n2,?_⟩,⟨?_,?_,?_⟩⟩
 ·have hpb := he.pbk
  have hpq := he.pr.blk
  have hob := he.obk
  rw [enter123,B123]
  cases hrw : P.rw
  ·simp only [hrw,Bool.false_eq_true,if_false] at hcx
   subst hcx
   rw [hrw] at hpq
   simp [hpb,hpq,hob,repL,ha,hHo,fin123]
  ·simp only [hrw,if_true] at hcx
   subst hcx
   rw [hrw] at hpq
   simp [hpb,hpq,hob,repL,ha,hHo,fin123]
 ·rcases hid with rfl | rfl | rfl
  ·rw [blk?_set_ne m5,hk _ l1 m8]
  ·rw [blk?_set_ne m7,hk _ l2 m9]
  ·rw [blk?_set_ne (Ne.symm m3),hk _ l3 m10]
 ·simp; omega
 ·rw [blk?_set_ne m6,hk _ l4 m11]; exact he.pbk
 ·rw [blk?_set_eq hloH]
 ·refine ⟨by rw [encS_len],.inr ⟨h.length + 1,by simp [ES.emit],?_⟩⟩
  rw [blk?_set_ne (by omega),hK]
  simp [ES.emit,encS_append,encS,hcx]
 ·simp [sid]; omega
 ·simp; omega
 ·intro id hid _ h3 h4
  rw [blk?_set_ne (Ne.symm h3),hk id hid h4]
 ·intro id hid
  simp [sid] at hid
  exact .inr (by simp; omega)
theorem xor01 {a b : Nat} (ha : a ≤ 1) (hb : b ≤ 1) : xorI .i64 (a : Int) (b : Int) = (((a + b) % 2 : Nat) : Int) := by
 have h1 : a = 0 ∨ a = 1 := by omega
 have h2 : b = 0 ∨ b = 1 := by omega
 rcases h1 with rfl | rfl <;> rcases h2 with rfl | rfl <;> decide
theorem negOf_le (v : Int) : negOf v ≤ 1 := by unfold negOf; split <;> omega
theorem signFlip_le (a b : Int) : signFlip a b ≤ 1 := by unfold signFlip; split <;> omega
theorem joint_range (s t : Int) : joint s t = -1 ∨ joint s t = 0 ∨ joint s t = 1 := by unfold joint; omega
theorem sign_p (he : PE h q p c pb ob P sv σ) (hn : σ.out.length < 1000000) {x y : Int} (hi : σ.b.inb x y) :
  ∃ sv' h',(∀ R,Ret tab 186 [ptr q,.int .i64 x,.int .i64 y] h R = R (.tuple #[]) h') ∧ PE h' q p c pb ob P sv' (σ.sign P x y) ∧ Stp h h' c ob sv sv' := by
 obtain ⟨sv1,h1,e1,p1,s1⟩ := emit_c he hn (signCtx (sgH σ.b x y) (sgV σ.b x y P.cz)) (signBit P σ.b x y)
 obtain ⟨p2,s2⟩ := p1.map (x := x) (y := y) hi kv_mark
 refine ⟨sv1,_,fun R => ?_,p2,s1.trans s2⟩
 have hq := he.pr.blk
 have hq1 := p1.pr.blk
 have hm := fun R => mark_c (R := R) p1.pr.cb (x := x) (y := y) hi
 have hc := fun R => ctxSign_c (h := h) (R := R) (joint_range (sgn σ.b (x - 1) y) (sgn σ.b (x + 1) y)) (joint_range (sgn σ.b x (y - 1)) (if (!P.cz || y % 4 != 3) = true then sgn σ.b x (y + 1) else 0))
 change ∀ R,Ret tab _ [.int .i64 (sgH σ.b x y),.int .i64 (sgV σ.b x y P.cz)] h R = R (.tuple #[.int .i64 (signCtx (sgH σ.b x y) (sgV σ.b x y P.cz)),.int .i64 (signFlip (sgH σ.b x y) (sgV σ.b x y P.cz))]) h at hc
 have hv := fun R => value_c (R := R) (x := x) (y := y) he.pr.cb
 have hs := fun R => signs_c (R := R) he.pr.cb hi P.cz
 have hx := xor01 (negOf_le (σ.b.get x y).v) (signFlip_le (sgH σ.b x y) (sgV σ.b x y P.cz))
 have hx0 := xor01 (negOf_le (σ.b.get x y).v) (Nat.zero_le 1)
 have hmm : (fun z : Cell => ({ z with s := true } : Cell)) = mark := rfl
 rw [hmm] at hm
 rw [enter186,B186]
 unfold signBit at e1
 simp only [ES.emit_b] at *
 generalize sgH σ.b x y = H at *
 generalize sgV σ.b x y P.cz = V at *
 by_cases hneg : (σ.b.get x y).v < 0
 ·have hno : negOf (σ.b.get x y).v = 1 := by simp [negOf,hneg]
  rw [hno] at hx hx0 e1
  simp only [Int.natCast_one,Int.natCast_zero] at hx hx0
  cases hrw : P.rw
  ·simp only [hrw,Bool.false_eq_true,if_false] at e1
   rw [hrw] at hq
   simp [-Int.natCast_emod,-Int.natCast_add] at e1
   simp [-Int.natCast_emod,-Int.natCast_add,hq,hq1,hv,hneg,hs,hc,hx,e1,hm,fin186]
  ·simp only [hrw,if_true] at e1
   rw [hrw] at hq
   simp [-Int.natCast_emod,-Int.natCast_add] at e1
   simp [-Int.natCast_emod,-Int.natCast_add,hq,hq1,hv,hneg,hs,hc,hx0,e1,hm,fin186]
 ·have hno : negOf (σ.b.get x y).v = 0 := by simp [negOf,hneg]
  rw [hno] at hx hx0 e1
  simp only [Int.natCast_one,Int.natCast_zero] at hx hx0
  cases hrw : P.rw
  ·simp only [hrw,Bool.false_eq_true,if_false] at e1
   rw [hrw] at hq
   simp [-Int.natCast_emod,-Int.natCast_add] at e1
   simp [-Int.natCast_emod,-Int.natCast_add,hq,hq1,hv,hneg,hs,hc,hx,e1,hm,fin186]
  ·simp only [hrw,if_true] at e1
   rw [hrw] at hq
   simp [-Int.natCast_emod,-Int.natCast_add] at e1
   simp [-Int.natCast_emod,-Int.natCast_add,hq,hq1,hv,hneg,hs,hc,hx0,e1,hm,fin186]
end
def AE.bytes (a : AE) : List Nat := trim (termP (a.ds.take (a.ds.length - 4)) (val (a.ds.drop (a.ds.length - 4))) a.size)
theorem bytes_of {a : AE} {out : List Nat} {low : Nat} (h : a.ds = out ++ dig4 low) : a.bytes = trim (termP out low a.size) := by
 unfold AE.bytes
 have e : a.ds.length - 4 = out.length := by rw [h]; simp [dig4]
 rw [e,h,List.take_left,List.drop_left,dig4_val]
def AE.setBack (a : AE) : AE := { a with p := AE.base a.p.length }
structure S2 where
 a : AE
 raw : Option (List Nat)
def S2.put (st : S2) (s : Int × Nat) : S2 :=
 match st.raw with
 | none => ⟨st.a.put s.1.toNat s.2,none⟩
 | some bs => ⟨st.a,some (bs ++ [s.2])⟩
def S2.size (st : S2) : Nat :=
 match st.raw with
 | none => if st.a.begun = true then st.a.ds.length else 0
 | some bs => (bs.length + 7) / 8
def S2.bytes (st : S2) : List Nat :=
 match st.raw with
 | none => st.a.bytes
 | some bs => segOf bs
def S2.back (st : S2) : S2 := ⟨st.a.setBack,st.raw⟩
def S2.after (st : S2) : AE :=
 match st.raw with
 | none => AE.begin st.a.p
 | some _ => st.a
def SymOk (raw : Option (List Nat)) (s : Int × Nat) : Prop := s.2 < 2 ∧ (raw = none → 0 ≤ s.1 ∧ s.1 < 19)
abbrev ifE (e : Nat) : Value := .iface 78 (.agg #[ptr e])
abbrev ifR (p : Nat) : Value := .iface 85 (.agg #[ptr p])
abbrev tbW : Array Value := #[.int .i64 78,.func (.func 228) #[] #[],.int .i64 85,.func (.func 241) #[] #[]]
abbrev tbS : Array Value := #[.int .i64 78,.func (.func 227) #[] #[],.int .i64 85,.func (.func 240) #[] #[]]
abbrev tbE : Array Value := #[.int .i64 78,.func (.func 226) #[] #[],.int .i64 85,.func (.func 239) #[] #[]]
def ownE (e pb : Nat) (o : Value) (id : Nat) : Prop := id = e ∨ id = pb ∨ sid o = some id
def ownR (p : Nat) (s : Value) (id : Nat) : Prop := id = p ∨ sid s = some id
inductive Snk (h : Heap) (e : Nat) : Value → (Nat → Prop) → S2 → Nat → Prop
 | enc {pb : Nat} {o : Value} {out : List Nat} {low N : Nat} {a : AE} (I : EA h e pb o out low a) (h19 : a.p.length = 19) (hn : out.length ≤ N) : Snk h e (ifE e) (ownE e pb o) ⟨a,none⟩ N
 | raw {pb : Nat} {o : Value} {out : List Nat} {low N p : Nat} {s : Value} {a : AE} {bs : List Nat} (I : EA h e pb o out low a) (h19 : a.p.length = 19) (hn : out.length ≤ N) (J : PW h p s bs) (hb : bs.length ≤ N)
   (hd : ∀ id,ownE e pb o id → ¬ ownR p s id) : Snk h e (ifR p) (fun id => ownE e pb o id ∨ ownR p s id) ⟨a,some bs⟩ N
structure SF (h h' : Heap) (own own' : Nat → Prop) : Prop where
 len : h.length ≤ h'.length
 same : ∀ id,id < h.length → ¬ own id → blk? h' id = blk? h id
 fresh : ∀ id,own' id → own id ∨ (h.length ≤ id ∧ id < h'.length)
theorem SF.refl (h : Heap) (own : Nat → Prop) : SF h h own own := ⟨Nat.le_refl _,fun _ _ _ => rfl,fun _ h => .inl h⟩
theorem SF.trans {h1 h2 h3 : Heap} {o1 o2 o3 : Nat → Prop} (a : SF h1 h2 o1 o2) (b : SF h2 h3 o2 o3) : SF h1 h3 o1 o3 := by
 refine ⟨Nat.le_trans a.len b.len,fun id h0 hn => ?_,fun id hid => ?_⟩
 ·rw [b.same id (by have := a.len; omega) (fun hx => ?_),a.same id h0 hn]
  rcases a.fresh id hx with h | h
  ·exact hn h
  ·omega
 ·rcases b.fresh id hid with h | h
  ·rcases a.fresh id h with h' | h'
   ·exact .inl h'
   ·have := b.len; exact .inr ⟨h'.1,by omega⟩
  ·have := a.len; exact .inr ⟨by omega,h.2⟩
section
variable {h h' : Heap} {R : Value → Heap → Prop} {e pb : Nat} {o : Value} {p out : List Nat} {low size : Nat} {begun : Bool} {a : AE}
theorem EA.keep (I : EA h e pb o out low a) (hk : ∀ id,ownE e pb o id → blk? h' id = blk? h id) : EA h' e pb o out low a :=
 ⟨⟨by rw [hk e (.inl rfl)]; exact I.ep.blk,by rw [hk pb (.inr (.inl rfl))]; exact I.ep.pblk,I.ep.own.of_blk fun id hid hb => by rw [hk id (.inr (.inr hid))]; exact hb,I.ep.ne1,I.ep.ne2,I.ep.ne3⟩,I.ds,I.lt,I.ok,I.pos⟩
theorem EA.own_lt (I : EA h e pb o out low a) {id : Nat} (hid : ownE e pb o id) : id < h.length := by
 rcases hid with rfl | rfl | hid
 ·exact blk?_lt I.ep.blk
 ·exact blk?_lt I.ep.pblk
 ·exact I.ep.own.lt hid
theorem PW.keep {q : Nat} {s : Value} {bs : List Nat} (J : PW h q s bs) (hk : ∀ id,ownR q s id → blk? h' id = blk? h id) : PW h' q s bs :=
 ⟨by rw [hk q (.inl rfl)]; exact J.blk,J.own.of_blk fun id hid hb => by rw [hk id (.inr hid)]; exact hb,J.ne,J.bits⟩
theorem PW.own_lt {q : Nat} {s : Value} {bs : List Nat} (J : PW h q s bs) {id : Nat} (hid : ownR q s id) : id < h.length := by
 rcases hid with rfl | hid
 ·exact blk?_lt J.blk
 ·exact J.own.lt hid
theorem Snk.own_lt {v : Value} {own : Nat → Prop} {st : S2} {N : Nat} (K : Snk h e v own st N) {id : Nat} (hid : own id) : id < h.length := by
 cases K with
 | enc I _ _ => exact I.own_lt hid
 | raw I _ _ J _ _ =>
  rcases hid with hid | hid
  ·exact I.own_lt hid
  ·exact J.own_lt hid
theorem Snk.keep {v : Value} {own : Nat → Prop} {st : S2} {N : Nat} (K : Snk h e v own st N) (hk : ∀ id,own id → blk? h' id = blk? h id) : Snk h' e v own st N := by
 cases K with
 | enc I h1 h2 => exact .enc (I.keep hk) h1 h2
 | raw I h1 h2 J h3 h4 => exact .raw (I.keep fun id hid => hk id (.inl hid)) h1 h2 (J.keep fun id hid => hk id (.inr hid)) h3 h4
theorem snk_put {v : Value} {own : Nat → Prop} {st : S2} {N : Nat} (K : Snk h e v own st N) (hN : N < 900000) {c : Int} {b : Nat} (hs : SymOk st.raw (c,b)) :
  ∃ h' own',(∀ R,callIK tbW [v,.agg #[.int .i64 c,.int .i64 (b : Nat)]] tab h R = R (.tuple #[]) h') ∧ Snk h' e v own' (st.put (c,b)) (N + 1) ∧ SF h h' own own' := by
 cases K with
 | @enc pb o out low _ a I h19 hn =>
  obtain ⟨hb,hc⟩ := hs
  obtain ⟨c0,c1⟩ := hc rfl
  obtain ⟨c,rfl⟩ := Int.eq_ofNat_of_zero_le c0
  have lt : ∀ id,ownE e pb o id → id < h.length := fun id hid => I.own_lt hid
  have I1 : EA (h ++ [some ⟨false,[ptr e]⟩,some ⟨false,[.int .i64 (c : Nat),.int .i64 (b : Nat)]⟩]) e pb o out low a := I.keep fun id hid => app_lt (lt id hid)
  obtain ⟨h',o',out',low',e1,I2,F,hl⟩ := put_c I1 (c := c) (bit := b) (by omega) hb (by omega)
  refine ⟨h',ownE e pb o',fun R => ?_,?_,⟨?_,fun id hid hno => ?_,fun id hid => ?_⟩⟩
  ·simp [callIK,lookM]
   rw [enter228,B228]
   simp at e1
   simp [app_len,app_add,app_zero,app_succ,e1,fin228]
  ·have := Snk.enc (N := N + 1) I2 (by unfold AE.put; simpa using h19) (by omega)
   simpa [S2.put] using this
  ·have := F.len; simp at this; omega
  ·rw [F.same id (by simp; omega) (fun x => hno (.inl x)) (fun x => hno (.inr (.inl x))) (fun x => hno (.inr (.inr x))),app_lt hid]
  ·rcases hid with hid | hid | hid
   ·exact .inl (.inl hid)
   ·exact .inl (.inr (.inl hid))
   ·rcases F.fresh id hid with hx | hx
    ·exact .inl (.inr (.inr hx))
    ·right; simp at hx; omega
 | @raw pb o out low _ q s a bs I h19 hn J hbl hd =>
  obtain ⟨hb,_⟩ := hs
  simp only at hb
  have J1 : PW (h ++ [some ⟨false,[ptr q]⟩,some ⟨false,[.int .i64 c,.int .i64 (b : Nat)]⟩]) q s bs := J.keep fun id hid => app_lt (J.own_lt hid)
  obtain ⟨s',h',e1,J2,F⟩ := put20 J1 (b := b) (by omega) (by omega)
  have hl2 := F.len
  simp at hl2
  have notown : ∀ id,ownE e pb o id → blk? h' id = blk? h id := fun id hid => by
   have hlt := I.own_lt hid
   rw [F.same id (by simp; omega) (fun x => hd id hid (.inl x)) (fun x => hd id hid (.inr x)),app_lt hlt]
  have fr : ∀ id,ownR q s' id → ownR q s id ∨ (h.length ≤ id ∧ id < h'.length) := fun id hid => by
   rcases hid with hid | hid
   ·exact .inl (.inl hid)
   ·rcases F.fresh id hid with hx | hx
    ·exact .inl (.inr hx)
    ·right; simp at hx; omega
  refine ⟨h',fun id => ownE e pb o id ∨ ownR q s' id,fun R => ?_,?_,⟨by omega,fun id hid hno => ?_,fun id hid => ?_⟩⟩
  ·simp [callIK,lookM]
   rw [enter241,B241]
   simp at e1
   simp [app_len,app_add,app_zero,app_succ,e1,fin241]
  ·refine .raw (I.keep notown) h19 (by omega) J2 (by simp; omega) (fun id h1 h2 => ?_)
   rcases fr id h2 with hx | hx
   ·exact hd id h1 hx
   ·have := I.own_lt h1; omega
  ·rw [F.same id (by simp; omega) (fun x => hno (.inr (.inl x))) (fun x => hno (.inr (.inr x))),app_lt hid]
  ·rcases hid with hid | hid
   ·exact .inl (.inl hid)
   ·rcases fr id hid with hx | hx
    ·exact .inl (.inr hx)
    ·exact .inr hx
theorem snk_size {v : Value} {own : Nat → Prop} {st : S2} {N : Nat} (K : Snk h e v own st N) (hN : N ≤ 900000) :
  ∃ h',(∀ R,callIK tbS [v] tab h R = R (.int .i64 (st.size : Nat)) h') ∧ Snk h' e v own st N ∧ SF h h' own own := by
 cases K with
 | @enc pb o out low _ a I h19 hn =>
  have I1 : EA (h ++ [some ⟨false,[ptr e]⟩]) e pb o out low a := I.keep fun id hid => app_lt (I.own_lt hid)
  have hz := fun R => esize_c (R := R) I1 (by omega)
  refine ⟨h ++ [some ⟨false,[ptr e]⟩],fun R => ?_,.enc I1 h19 hn,⟨by simp,fun id hid _ => app_lt hid,fun id hid => .inl hid⟩⟩
  unfold S2.size
  generalize (if a.begun = true then a.ds.length else 0) = z at *
  simp [callIK,lookM]
  rw [enter227,B227]
  simp [app_len,app_zero,hz,fin227]
 | @raw pb o out low _ q s a bs I h19 hn J hbl hd =>
  have I1 : EA (h ++ [some ⟨false,[ptr q]⟩]) e pb o out low a := I.keep fun id hid => app_lt (I.own_lt hid)
  have J1 : PW (h ++ [some ⟨false,[ptr q]⟩]) q s bs := J.keep fun id hid => app_lt (J.own_lt hid)
  have hz := fun R => size22 J1 R
  refine ⟨h ++ [some ⟨false,[ptr q]⟩],fun R => ?_,.raw I1 h19 hn J1 hbl hd,⟨by simp,fun id hid _ => app_lt hid,fun id hid => .inl hid⟩⟩
  show callIK tbS [ifR q] tab h R = R (.int .i64 (((bs.length + 7) / 8 : Nat) : Int)) _
  generalize (((bs.length + 7) / 8 : Nat) : Int) = z at *
  simp [callIK,lookM]
  rw [enter240,B240]
  simp [app_len,app_zero,hz,fin240]
theorem snk_back {v : Value} {own : Nat → Prop} {st : S2} {N : Nat} (K : Snk h e v own st N) :
  ∃ h',(∀ R,Ret tab 41 [ptr e] h R = R (.tuple #[]) h') ∧ Snk h' e v own st.back N ∧ SF h h' own own := by
 cases K with
 | @enc pb o out low _ a I h19 hn =>
  obtain ⟨h',e1,I1,F⟩ := ereset_c I (by omega)
  exact ⟨h',e1,.enc I1 (by simpa [AE.base,AE.setBack] using h19) hn,⟨F.len,fun id hid hno => F.same id hid (fun x => hno (.inl x)) (fun x => hno (.inr (.inl x))) (fun x => hno (.inr (.inr x))),fun id hid => .inl hid⟩⟩
 | @raw pb o out low _ q s a bs I h19 hn J hbl hd =>
  obtain ⟨h',e1,I1,F⟩ := ereset_c I (by omega)
  have hk : ∀ id,ownR q s id → blk? h' id = blk? h id := fun id hid => by
   have hn : ¬ ownE e pb o id := fun x => hd id x hid
   exact F.same id (J.own_lt hid) (fun x => hn (.inl x)) (fun x => hn (.inr (.inl x))) (fun x => hn (.inr (.inr x)))
  exact ⟨h',e1,.raw I1 (by simpa [AE.base,AE.setBack] using h19) hn (J.keep hk) hbl hd,⟨F.len,fun id hid hno => F.same id hid (fun x => hno (.inl (.inl x))) (fun x => hno (.inl (.inr (.inl x)))) (fun x => hno (.inl (.inr (.inr x)))),fun id hid => .inl hid⟩⟩
theorem snk_end {v : Value} {own : Nat → Prop} {st : S2} {N : Nat} (K : Snk h e v own st N) (hN : N ≤ 900000) :
  ∃ h' s pb' o' out' low',(∀ R,callIK tbE [v] tab h R = R s h') ∧ EA h' e pb' o' out' low' st.after ∧ out'.length ≤ N ∧ st.after.p.length = 19 ∧ SF h h' own (ownE e pb' o') ∧
   Sl h' 1 s st.bytes.length (nU st.bytes) ∧ (∀ id,sid s = some id → own id ∨ h.length ≤ id) := by
 cases K with
 | @enc pb o out low _ a I h19 hn =>
  have I1 : EA (h ++ [some ⟨false,[ptr e]⟩]) e pb o out low a := I.keep fun id hid => app_lt (I.own_lt hid)
  obtain ⟨h',s,e1,I2,F,hs,hf⟩ := eterm_c I1 (by omega)
  have hl2 := F.len
  simp at hl2
  refine ⟨h',s,pb,.slice none 0 0,[],0,fun R => ?_,I2,by simp,by simpa [S2.after,AE.begin] using h19,⟨by omega,fun id hid hno => ?_,fun id hid => ?_⟩,?_,fun id hid => ?_⟩
  ·simp [callIK,lookM]
   rw [enter226,B226]
   simp at e1
   simp [app_len,app_zero,e1,fin226]
  ·rw [F.same id (by simp; omega) (fun x => hno (.inl x)) (fun x => hno (.inr (.inl x))) (fun x => hno (.inr (.inr x))),app_lt hid]
  ·rcases hid with hid | hid | hid
   ·exact .inl (.inl hid)
   ·exact .inl (.inr (.inl hid))
   ·simp [sid] at hid
  ·have : S2.bytes ⟨a,none⟩ = trim (termP out low a.size) := bytes_of I.ds
   rw [this]; exact hs
  ·have := hf id hid
   simp at this; right; omega
 | @raw pb o out low _ q s a bs I h19 hn J hbl hd =>
  have J1 : PW (h ++ [some ⟨false,[ptr q]⟩]) q s bs := J.keep fun id hid => app_lt (J.own_lt hid)
  obtain ⟨t,h',e1,hs,J2,hl2,hsame,hf⟩ := term18 J1 (by omega)
  simp at hl2
  have hk : ∀ id,ownE e pb o id → blk? h' id = blk? h id := fun id hid => by
   rw [hsame id (fun x => hd id hid (.inl x)),app_lt (I.own_lt hid)]
  refine ⟨h',t,pb,o,out,low,fun R => ?_,I.keep hk,hn,h19,⟨by omega,fun id hid hno => ?_,fun id hid => .inl (.inl hid)⟩,hs,fun id hid => ?_⟩
  ·simp [callIK,lookM]
   rw [enter239,B239]
   simp at e1
   simp [app_len,app_zero,e1,fin239]
  ·rw [hsame id (fun x => hno (.inr (.inl x))),app_lt hid]
  ·exact .inl (.inr (.inr (hf id hid)))
theorem snk_bytes {N : Nat} {v : Value} {own : Nat → Prop} {st : S2} (K : Snk h e v own st N) : st.bytes.length ≤ N + 4 := by
 cases K with
 | @enc pb o out low _ a I h19 hn =>
  have : S2.bytes ⟨a,none⟩ = trim (termP out low a.size) := bytes_of I.ds
  rw [this]
  have h1 := trim_len (termP out low a.size)
  have h2 : (termP out low a.size).length = out.length + 4 := by unfold termP; split <;> simp [addD_len,dig4]
  omega
 | @raw pb o out low _ q s a bs I h19 hn J hbl hd =>
  show (segOf bs).length ≤ N + 4
  unfold segOf
  rw [List.length_take,pack_length]
  omega
theorem snk_size_le {N : Nat} {v : Value} {own : Nat → Prop} {st : S2} (K : Snk h e v own st N) : st.size ≤ N + 4 := by
 cases K with
 | @enc pb o out low _ a I h19 hn =>
  show (if a.begun = true then a.ds.length else 0) ≤ N + 4
  have : a.ds.length = out.length + 4 := by rw [I.ds]; simp [dig4]
  split <;> omega
 | @raw pb o out low _ q s a bs I h19 hn J hbl hd =>
  show (bs.length + 7) / 8 ≤ N + 4
  omega
end
set_option maxRecDepth 10000
structure XA (h : Heap) (e pb lb : Nat) (a : AE) : Prop where
 blk : blk? h e = some ⟨false,[.slice (some ⟨pb,0,none⟩) a.p.length 1,.slice (some ⟨lb,0,none⟩) a.ds.length 1,.int .i64 (a.size : Nat),.bool a.begun]⟩
 pblk : blk? h pb = some ⟨false,nI a.p⟩
 lblk : blk? h lb = some ⟨false,nI a.ds⟩
 ne1 : e ≠ pb
 ne2 : e ≠ lb
 ne3 : pb ≠ lb
 ok : a.Ok
 pos : 0 < a.p.length
def ownX (e pb lb : Nat) (id : Nat) : Prop := id = e ∨ id = pb ∨ id = lb
theorem XA.own_lt {h : Heap} {e pb lb : Nat} {a : AE} (I : XA h e pb lb a) {id : Nat} (hid : ownX e pb lb id) : id < h.length := by
 rcases hid with rfl | rfl | rfl
 ·exact blk?_lt I.blk
 ·exact blk?_lt I.pblk
 ·exact blk?_lt I.lblk
theorem XA.keep {h h' : Heap} {e pb lb : Nat} {a : AE} (I : XA h e pb lb a) (hk : ∀ id,ownX e pb lb id → blk? h' id = blk? h id) : XA h' e pb lb a :=
 ⟨by rw [hk e (.inl rfl)]; exact I.blk,by rw [hk pb (.inr (.inl rfl))]; exact I.pblk,by rw [hk lb (.inr (.inr rfl))]; exact I.lblk,I.ne1,I.ne2,I.ne3,I.ok,I.pos⟩
theorem addD_le : ∀ {ds : List Nat} {b : Nat},Dig ds → (addD ds b).1 ≤ b
 | [],b,_ => Nat.le_refl _
 | d :: ds,b,h => by
  have ih := addD_le (ds := ds) (b := b) fun x hx => h x (by simp [hx])
  have hd := h d (by simp)
  rw [addD]
  simp only
  omega
section
variable {h : Heap} {R : Value → Heap → Prop} {e pb lb : Nat} {a : AE}
theorem adapt_x {x b : Nat} (hx : POk x) (hb : b < 2) : Ret tab 131 [.int .i64 (x : Nat),.int .i64 (b : Nat)] h R = R (.int .i64 (adaptP x b : Nat)) h := by
 obtain ⟨h1,h2⟩ := hx
 have n1 : ¬ ((x : Int) < 0) := by omega
 have n2 : ¬ ((4096 : Int) < x) := by omega
 rw [enter131,B131]
 unfold adaptP
 by_cases hb0 : b = 0
 ·subst hb0
  have w1 : IntKind.i64.wrap (4096 - (x : Int)) = 4096 - (x : Int) := wrapI (by omega) (by omega)
  have d : (4096 - (x : Int)).tdiv 32 = (4096 - (x : Int)) / 32 := Int.tdiv_eq_ediv_of_nonneg (by omega)
  have w2 : IntKind.i64.wrap ((4096 - (x : Int)) / 32) = (4096 - (x : Int)) / 32 := wrapI (by omega) (by omega)
  have w3 : IntKind.i64.wrap ((x : Int) + (4096 - (x : Int)) / 32) = ((x + (4096 - x) / 32 : Nat) : Int) := by rw [wrapI (by omega) (by omega)]; omega
  rw [if_pos rfl]
  generalize ((x + (4096 - x) / 32 : Nat) : Int) = y at *
  simp [k_guard,n1,n2,w1,d,w2,w3,fin131]
 ·obtain rfl : b = 1 := by omega
  have d : ((x : Int)).tdiv 32 = (x : Int) / 32 := Int.tdiv_eq_ediv_of_nonneg (by omega)
  have w2 : IntKind.i64.wrap ((x : Int) / 32) = (x : Int) / 32 := wrapI (by omega) (by omega)
  have w3 : IntKind.i64.wrap ((x : Int) - (x : Int) / 32) = ((x - x / 32 : Nat) : Int) := by rw [wrapI (by omega) (by omega)]; omega
  rw [if_neg (by omega)]
  generalize ((x - x / 32 : Nat) : Int) = y at *
  simp [k_guard,n1,n2,d,w2,w3,fin131]
theorem xdig_loop {ds : List Nat} {b : Nat} {cs : List Value} {pv v1 v2 : Value} (hd : Dig ds) (hb : b < 4294967296) (hl : ds.length < 1000000000) (hne : e ≠ lb) (hbe : blk? h e = some ⟨false,pv :: .slice (some ⟨lb,0,none⟩) ds.length 1 :: cs⟩) (hlb : lb < h.length) {k : List RItem}
  (hk : ∀ K3 K4 K5 K6 K7 K8 K9 Ka Kb Kc Kd Ke Kf Kg Kh Ki Kj Kk Kl Km Kn Ko Kp Kq Kr Ks Kt Ku Kv Kw Kx Ky Kz J0 J1 J2 J3 J4 J5 J6 J7 J8 J9 Ja Jb Jc Jd Je Jf Jg Jh Ji Jj Jk Jl Jm Jn Jo Jp Jq Jr Js Jt Ju Jv Jw Jx Jy Jz Y0 Y1 Y2 Y3 Y4 Y5 Y6 Y7 Y8 Y9 Ya Yb Yc Yd Ye Yf Yg Yh Yi Yj Yk Yl Ym Yn Yo Yp Yq Yr Ys Yt Yu Yv Yw Yx Yy Yz Z0 Z1 Z2 Z3 Z4 Z5 Z6 Z7 Z8 Z9 Za Zb Zc Zd Ze Zf Zg Zh Zi Zj Zk Zl Zm Zn Zo Zp Zq : Value,Ok tab R93 k #[ptr e,v1,v2,K3,K4,K5,K6,K7,K8,K9,Ka,Kb,Kc,Kd,Ke,Kf,Kg,Kh,Ki,Kj,Kk,Kl,Km,Kn,Ko,Kp,Kq,Kr,Ks,Kt,Ku,Kv,Kw,Kx,Ky,Kz,J0,J1,J2,J3,J4,J5,J6,J7,J8,J9,Ja,Jb,Jc,Jd,Je,Jf,Jg,Jh,Ji,Jj,Jk,Jl,Jm,Jn,Jo,Jp,Jq,Jr,Js,Jt,Ju,Jv,Jw,Jx,Jy,Jz,Y0,Y1,Y2,Y3,Y4,Y5,Y6,Y7,Y8,Y9,Ya,Yb,Yc,Yd,Ye,Yf,Yg,Yh,Yi,Yj,Yk,Yl,Ym,Yn,Yo,Yp,Yq,Yr,Ys,Yt,Yu,Yv,Yw,Yx,Yy,Yz,Z0,Z1,Z2,Z3,Z4,Z5,Z6,Z7,Z8,Z9,Za,Zb,Zc,Zd,Ze,Zf,Zg,Zh,Zi,Zj,Zk,Zl,Zm,Zn,Zo,Zp,Zq] (h.set lb (some ⟨false,nI (addD ds b).2⟩)) R) :
  ∀ (i : Nat) (K3 K4 K5 K6 K9 Ka Kb Kc Kd Ke Kf Kg Kh Ki Kj Kk Kl Km Kn Ko Kp Kq Kr Ks Kt Ku Kv Kw Kx Ky Kz J0 J1 J2 J3 J4 J5 J6 J7 J8 J9 Ja Jb Jc Jd Je Jf Jg Jh Ji Jj Jk Jl Jm Jn Jo Jp Jq Jr Js Jt Ju Jv Jw Jx Jy Jz Y0 Y1 Y2 Y3 Y4 Y5 Y6 Y7 Y8 Y9 Ya Yb Yc Yd Ye Yf Yg Yh Yi Yj Yk Yl Ym Yn Yo Yp Yq Yr Ys Yt Yu Yv Yw Yx Yy Yz Z0 Z1 Z2 Z3 Z4 Z5 Z6 Z7 Z8 Z9 Za Zb Zc Zd Ze Zf Zg Zh Zi Zj Zk Zl Zm Zn Zo Zp Zq : Value),i ≤ ds.length →
   Ok tab R93 (.inLoop L93_0 :: .inBlock 0 :: k) #[ptr e,v1,v2,K3,K4,K5,K6,.int .i64 ((addD (ds.drop i) b).1 : Nat),.int .i64 ((i : Int) - 1),K9,Ka,Kb,Kc,Kd,Ke,Kf,Kg,Kh,Ki,Kj,Kk,Kl,Km,Kn,Ko,Kp,Kq,Kr,Ks,Kt,Ku,Kv,Kw,Kx,Ky,Kz,J0,J1,J2,J3,J4,J5,J6,J7,J8,J9,Ja,Jb,Jc,Jd,Je,Jf,Jg,Jh,Ji,Jj,Jk,Jl,Jm,Jn,Jo,Jp,Jq,Jr,Js,Jt,Ju,Jv,Jw,Jx,Jy,Jz,Y0,Y1,Y2,Y3,Y4,Y5,Y6,Y7,Y8,Y9,Ya,Yb,Yc,Yd,Ye,Yf,Yg,Yh,Yi,Yj,Yk,Yl,Ym,Yn,Yo,Yp,Yq,Yr,Ys,Yt,Yu,Yv,Yw,Yx,Yy,Yz,Z0,Z1,Z2,Z3,Z4,Z5,Z6,Z7,Z8,Z9,Za,Zb,Zc,Zd,Ze,Zf,Zg,Zh,Zi,Zj,Zk,Zl,Zm,Zn,Zo,Zp,Zq] (h.set lb (some ⟨false,nI (ds.take i ++ (addD (ds.drop i) b).2)⟩)) R := by
 intro i
 induction i with
 | zero =>
  intros;rename_i _
  rw [ok_round,l93_0,L93_0a,L93_0b]
  simp
  exact hk ..
 | succ i ih =>
  intros;rename_i hi
  have hil : i < ds.length := by omega
  have hx : ds.drop i = ds[i] :: ds.drop (i + 1) := List.drop_eq_getElem_cons hil
  have hlt : ds[i] < 256 := hd _ (List.getElem_mem hil)
  have hcy := addD_le (b := b) (hd.drop (i + 1))
  have hal := addD_len (ds.drop (i + 1)) b
  have hne2 : ∀ X,blk? (h.set lb X) e = some ⟨false,pv :: .slice (some ⟨lb,0,none⟩) ds.length 1 :: cs⟩ := fun X => by rw [blk?_set_ne (Ne.symm hne)]; exact hbe
  have hbk : ∀ X,blk? (h.set lb X) lb = X := fun X => blk?_set_eq hlb
  have c1 : (((i + 1 : Nat) : Int) - 1) = (i : Int) := by omega
  have ih' := fun K3 K4 K5 K6 K9 Ka Kb Kc Kd Ke Kf Kg Kh Ki Kj Kk Kl Km Kn Ko Kp Kq Kr Ks Kt Ku Kv Kw Kx Ky Kz J0 J1 J2 J3 J4 J5 J6 J7 J8 J9 Ja Jb Jc Jd Je Jf Jg Jh Ji Jj Jk Jl Jm Jn Jo Jp Jq Jr Js Jt Ju Jv Jw Jx Jy Jz Y0 Y1 Y2 Y3 Y4 Y5 Y6 Y7 Y8 Y9 Ya Yb Yc Yd Ye Yf Yg Yh Yi Yj Yk Yl Ym Yn Yo Yp Yq Yr Ys Yt Yu Yv Yw Yx Yy Yz Z0 Z1 Z2 Z3 Z4 Z5 Z6 Z7 Z8 Z9 Za Zb Zc Zd Ze Zf Zg Zh Zi Zj Zk Zl Zm Zn Zo Zp Zq => ih K3 K4 K5 K6 K9 Ka Kb Kc Kd Ke Kf Kg Kh Ki Kj Kk Kl Km Kn Ko Kp Kq Kr Ks Kt Ku Kv Kw Kx Ky Kz J0 J1 J2 J3 J4 J5 J6 J7 J8 J9 Ja Jb Jc Jd Je Jf Jg Jh Ji Jj Jk Jl Jm Jn Jo Jp Jq Jr Js Jt Ju Jv Jw Jx Jy Jz Y0 Y1 Y2 Y3 Y4 Y5 Y6 Y7 Y8 Y9 Ya Yb Yc Yd Ye Yf Yg Yh Yi Yj Yk Yl Ym Yn Yo Yp Yq Yr Ys Yt Yu Yv Yw Yx Yy Yz Z0 Z1 Z2 Z3 Z4 Z5 Z6 Z7 Z8 Z9 Za Zb Zc Zd Ze Zf Zg Zh Zi Zj Zk Zl Zm Zn Zo Zp Zq (by omega)
  rw [hx,addD] at ih'
  simp only at ih'
  generalize hq : addD (ds.drop (i + 1)) b = q at *
  obtain ⟨cy,r⟩ := q
  simp only at hcy hal ih' ⊢
  have hcl : (ds.take (i + 1) ++ r).length = ds.length := by rw [List.length_append,List.length_take,hal,List.length_drop]; omega
  have hg : (nI (ds.take (i + 1) ++ r))[i]? = some (.int .i64 (ds[i] : Nat)) := by
   rw [nI_get (by omega),List.getD_eq_getElem?_getD,List.getElem?_append_left (by simp; omega),List.getElem?_take,if_pos (by omega),List.getElem?_eq_getElem hil]; rfl
  have w1 : IntKind.i64.wrap ((cy : Int) + (ds[i] : Nat)) = ((cy + ds[i] : Nat) : Int) := by rw [← Int.natCast_add]; exact wrapN (by omega)
  have w2 : (((cy + ds[i] : Nat) : Int).tmod 256) = (((cy + ds[i]) % 256 : Nat) : Int) := by
   rw [Int.tmod_eq_emod_of_nonneg (by omega)]; omega
  have w3 : IntKind.i64.wrap (((cy + ds[i] : Nat) : Int).tdiv 256) = (((cy + ds[i]) / 256 : Nat) : Int) := by
   rw [Int.tdiv_eq_ediv_of_nonneg (by omega),wrapI (by omega) (by omega)]; omega
  have w4 : IntKind.i64.wrap ((i : Int) - 1) = (i : Int) - 1 := wrapI (by omega) (by omega)
  have hst := nI_set (xs := ds.take (i + 1) ++ r) (i := i) (v := (cy + ds[i]) % 256)
  have hlist : (ds.take (i + 1) ++ r).set i ((cy + ds[i]) % 256) = ds.take i ++ ((cy + ds[i]) % 256) :: r := by
   rw [List.take_succ_eq_append_getElem hil,List.append_assoc,List.set_append_right _ _ (by simp; omega)]
   simp [Nat.min_eq_left (show i ≤ ds.length by omega)]
  rw [hlist] at hst
  have hil2 : i + 1 ≤ (nI (ds.take (i + 1) ++ r)).length := by rw [nI_len]; omega
  have g1 := get_of hg
  rw [c1]
  generalize nI (ds.take (i + 1) ++ r) = C at *
  generalize nI (ds.take i ++ ((cy + ds[i]) % 256) :: r) = C2 at *
  generalize (((cy + ds[i]) % 256 : Nat) : Int) = d1 at *
  generalize (((cy + ds[i]) / 256 : Nat) : Int) = d2 at *
  generalize ((cy + ds[i] : Nat) : Int) = sm at *
  generalize ((ds[i] : Nat) : Int) = xi at *
  have hge : (0 : Int) ≤ (i : Int) := by omega
  rw [ok_round,l93_0,L93_0a,L93_0b]
  simp [hge,hil,hne2,hbk,hg,g1,w1,w2,w3,w4,hil2,hst]
  exact ih' ..
theorem xnorm {ds : List Nat} {size : Nat} {pv v1 v2 : Value} {bg : Bool} (hbe : blk? h e = some ⟨false,[pv,.slice (some ⟨lb,0,none⟩) ds.length 1,.int .i64 (size : Nat),.bool bg]⟩) (hlb : blk? h lb = some ⟨false,nI ds⟩) (hne : e ≠ lb) (h1 : 65536 ≤ size) (h2 : size < 4294967296) (hl : ds.length < 1000000000) :
  ∃ h' lb',blk? h' e = some ⟨false,[pv,.slice (some ⟨lb',0,none⟩) (if size < 16777216 then ds ++ [0] else ds).length 1,.int .i64 ((if size < 16777216 then size * 256 else size : Nat) : Int),.bool bg]⟩ ∧ blk? h' lb' = some ⟨false,nI (if size < 16777216 then ds ++ [0] else ds)⟩ ∧ (lb' = lb ∨ h.length ≤ lb') ∧ h.length ≤ h'.length ∧
   (∀ id,id < h.length → id ≠ e → id ≠ lb → blk? h' id = blk? h id) ∧
   ∀ (k : List RItem) (K3 K4 K5 K6 K7 K8 K9 Ka Kb Kc Kd Ke Kf Kg Kh Ki Kj Kk Kl Km Kn Ko Kp Kq Kr Ks Kt Ku Kv Kw Kx Ky Kz J0 J1 J2 J3 J4 J5 J6 J7 J8 J9 Ja Jb Jc Jd Je Jf Jg Jh Ji Jj Jk Jl Jm Jn Jo Jp Jq Jr Js Jt Ju Jv Jw Jx Jy Jz Y0 Y1 Y2 Y3 Y4 Y5 Y6 Y7 Y8 Y9 Ya Yb Yc Yd Ye Yf Yg Yh Yi Yj Yk Yl Ym Yn Yo Yp Yq Yr Ys Yt Yu Yv Yw Yx Yy Yz Z0 Z1 Z2 Z3 Z4 Z5 Z6 Z7 Z8 Z9 Za Zb Zc Zd Ze Zf Zg Zh Zi Zj Zk Zl Zm Zn Zo Zp Zq : Value),(∀ K3 K4 K5 K6 K7 K8 K9 Ka Kb Kc Kd Ke Kf Kg Kh Ki Kj Kk Kl Km Kn Ko Kp Kq Kr Ks Kt Ku Kv Kw Kx Ky Kz J0 J1 J2 J3 J4 J5 J6 J7 J8 J9 Ja Jb Jc Jd Je Jf Jg Jh Ji Jj Jk Jl Jm Jn Jo Jp Jq Jr Js Jt Ju Jv Jw Jx Jy Jz Y0 Y1 Y2 Y3 Y4 Y5 Y6 Y7 Y8 Y9 Ya Yb Yc Yd Ye Yf Yg Yh Yi Yj Yk Yl Ym Yn Yo Yp Yq Yr Ys Yt Yu Yv Yw Yx Yy Yz Z0 Z1 Z2 Z3 Z4 Z5 Z6 Z7 Z8 Z9 Za Zb Zc Zd Ze Zf Zg Zh Zi Zj Zk Zl Zm Zn Zo Zp Zq : Value,Ok tab R93 k #[ptr e,v1,v2,K3,K4,K5,K6,K7,K8,K9,Ka,Kb,Kc,Kd,Ke,Kf,Kg,Kh,Ki,Kj,Kk,Kl,Km,Kn,Ko,Kp,Kq,Kr,Ks,Kt,Ku,Kv,Kw,Kx,Ky,Kz,J0,J1,J2,J3,J4,J5,J6,J7,J8,J9,Ja,Jb,Jc,Jd,Je,Jf,Jg,Jh,Ji,Jj,Jk,Jl,Jm,Jn,Jo,Jp,Jq,Jr,Js,Jt,Ju,Jv,Jw,Jx,Jy,Jz,Y0,Y1,Y2,Y3,Y4,Y5,Y6,Y7,Y8,Y9,Ya,Yb,Yc,Yd,Ye,Yf,Yg,Yh,Yi,Yj,Yk,Yl,Ym,Yn,Yo,Yp,Yq,Yr,Ys,Yt,Yu,Yv,Yw,Yx,Yy,Yz,Z0,Z1,Z2,Z3,Z4,Z5,Z6,Z7,Z8,Z9,Za,Zb,Zc,Zd,Ze,Zf,Zg,Zh,Zi,Zj,Zk,Zl,Zm,Zn,Zo,Zp,Zq] h' R) →
    Ok tab R93 (.inLoop L93_1 :: .inBlock 2 :: k) #[ptr e,v1,v2,K3,K4,K5,K6,K7,K8,K9,Ka,Kb,Kc,Kd,Ke,Kf,Kg,Kh,Ki,Kj,Kk,Kl,Km,Kn,Ko,Kp,Kq,Kr,Ks,Kt,Ku,Kv,Kw,Kx,Ky,Kz,J0,J1,J2,J3,J4,J5,J6,J7,J8,J9,Ja,Jb,Jc,Jd,Je,Jf,Jg,Jh,Ji,Jj,Jk,Jl,Jm,Jn,Jo,Jp,Jq,Jr,Js,Jt,Ju,Jv,Jw,Jx,Jy,Jz,Y0,Y1,Y2,Y3,Y4,Y5,Y6,Y7,Y8,Y9,Ya,Yb,Yc,Yd,Ye,Yf,Yg,Yh,Yi,Yj,Yk,Yl,Ym,Yn,Yo,Yp,Yq,Yr,Ys,Yt,Yu,Yv,Yw,Yx,Yy,Yz,Z0,Z1,Z2,Z3,Z4,Z5,Z6,Z7,Z8,Z9,Za,Zb,Zc,Zd,Ze,Zf,Zg,Zh,Zi,Zj,Zk,Zl,Zm,Zn,Zo,Zp,Zq] h R := by
 by_cases hs : size < 16777216
 ·have ho : OwnS h 1 (.slice (some ⟨lb,0,none⟩) ds.length 1) ds.length (nI ds) := ⟨by simp [nI],.inr ⟨lb,rfl,hlb⟩⟩
  obtain ⟨H1,ha,hb1,hlen1,hk1⟩ := app1v (v := .int .i64 0) (bytes := 8) ho (by unfold roomCells; omega) (by omega)
  have he := blk?_lt hbe
  have hbe1 : blk? H1 e = some ⟨false,[pv,.slice (some ⟨lb,0,none⟩) ds.length 1,.int .i64 (size : Nat),.bool bg]⟩ := by rw [hk1 e he (by simp [sid]; exact Ne.symm hne)]; exact hbe
  have hse : ∀ x,blk? (H1.set e x) e = x := fun x => blk?_set_eq (by omega)
  have hlt : ((size : Int) < 16777216) := by omega
  have hw : IntKind.i64.wrap (256 * (size : Int)) = ((size * 256 : Nat) : Int) := by rw [wrapI (by omega) (by omega)]; omega
  have hge : ¬ (((size * 256 : Nat) : Int) < 16777216) := by omega
  refine ⟨H1.set e (some ⟨false,[pv,.slice (some ⟨h.length + 1,0,none⟩) (ds.length + 1) 1,.int .i64 ((size * 256 : Nat) : Int),.bool bg]⟩),h.length + 1,?_,?_,.inr (by omega),by simp; omega,fun id hid i1 i2 => ?_,?_⟩
  ·rw [hse,if_pos hs,if_pos hs]; simp
  ·rw [blk?_set_ne (by omega),hb1,if_pos hs]; simp [nI]
  ·rw [blk?_set_ne (Ne.symm i1),hk1 id hid (by simp [sid]; exact Ne.symm i2)]
  ·intro k;intros;rename_i hk
   generalize ((size * 256 : Nat) : Int) = size' at *
   rw [ok_round,l93_1,L93_1a,L93_1b]
   simp [repL,hbe,hlt,ha,hbe1,hse,hw]
   rw [ok_round,l93_1,L93_1a,L93_1b]
   simp [hse,hge]
   exact hk ..
 ·have hlt : ¬ ((size : Int) < 16777216) := by omega
  refine ⟨h,lb,by rw [if_neg hs,if_neg hs]; exact hbe,by rw [if_neg hs]; exact hlb,.inl rfl,Nat.le_refl _,fun _ _ _ _ => rfl,?_⟩
  intro k;intros;rename_i hk
  rw [ok_round,l93_1,L93_1a,L93_1b]
  simp [hbe,hlt]
  exact hk ..
theorem xtail {p : List Nat} {c bit : Nat} {lv sv : Value} {bg : Bool} (hbe : blk? h e = some ⟨false,[.slice (some ⟨pb,0,none⟩) p.length 1,lv,sv,.bool bg]⟩) (hpb : blk? h pb = some ⟨false,nI p⟩) (hne : e ≠ pb) (hc : c < p.length) (hp : PsOk p) (hb : bit < 2)
  (hR : R (.int .i64 0) ((h.set pb (some ⟨false,nI (p.set c (adaptP (p.getD c 0) bit))⟩)).set e (some ⟨false,[.slice (some ⟨pb,0,none⟩) p.length 1,lv,sv,.bool true]⟩))) (K3 K4 K5 K6 K7 K8 K9 Ka Kb Kc Kd Ke Kf Kg Kh Ki Kj Kk Kl Km Kn Ko Kp Kq Kr Ks Kt Ku Kv Kw Kx Ky Kz J0 J1 J2 J3 J4 J5 J6 J7 J8 J9 Ja Jb Jc Jd Je Jf Jg Jh Ji Jj Jk Jl Jm Jn Jo Jp Jq Jr Js Jt Ju Jv Jw Jx Jy Jz Y0 Y1 Y2 Y3 Y4 Y5 Y6 Y7 Y8 Y9 Ya Yb Yc Yd Ye Yf Yg Yh Yi Yj Yk Yl Ym Yn Yo Yp Yq Yr Ys Yt Yu Yv Yw Yx Yy Yz Z0 Z1 Z2 Z3 Z4 Z5 Z6 Z7 Z8 Z9 Za Zb Zc Zd Ze Zf Zg Zh Zi Zj Zk Zl Zm Zn Zo Zp Zq : Value) :
  Ok tab R93 [.code (tlC 6 B93)] #[ptr e,.int .i64 (c : Nat),.int .i64 (bit : Nat),K3,K4,K5,K6,K7,K8,K9,Ka,Kb,Kc,Kd,Ke,Kf,Kg,Kh,Ki,Kj,Kk,Kl,Km,Kn,Ko,Kp,Kq,Kr,Ks,Kt,Ku,Kv,Kw,Kx,Ky,Kz,J0,J1,J2,J3,J4,J5,J6,J7,J8,J9,Ja,Jb,Jc,Jd,Je,Jf,Jg,Jh,Ji,Jj,Jk,Jl,Jm,Jn,Jo,Jp,Jq,Jr,Js,Jt,Ju,Jv,Jw,Jx,Jy,Jz,Y0,Y1,Y2,Y3,Y4,Y5,Y6,Y7,Y8,Y9,Ya,Yb,Yc,Yd,Ye,Yf,Yg,Yh,Yi,Yj,Yk,Yl,Ym,Yn,Yo,Yp,Yq,Yr,Ys,Yt,Yu,Yv,Yw,Yx,Yy,Yz,Z0,Z1,Z2,Z3,Z4,Z5,Z6,Z7,Z8,Z9,Za,Zb,Zc,Zd,Ze,Zf,Zg,Zh,Zi,Zj,Zk,Zl,Zm,Zn,Zo,Zp,Zq] h R := by
 have g := nI_get hc
 have ha := fun H R => adapt_x (h := H) (R := R) (hp.getD hc) hb
 have hs := nI_set (xs := p) (i := c) (v := adaptP (p.getD c 0) bit)
 have hl : c + 1 ≤ (nI p).length := by rw [nI_len]; exact hc
 have he1 : ∀ X,blk? (h.set pb X) e = some ⟨false,[.slice (some ⟨pb,0,none⟩) p.length 1,lv,sv,.bool bg]⟩ := fun X => by rw [blk?_set_ne (Ne.symm hne)]; exact hbe
 have g' := get_of g
 have hlt : (c : Int) < (p.length : Int) := by omega
 generalize p.set c (adaptP (p.getD c 0) bit) = p' at *
 generalize adaptP (p.getD c 0) bit = v at *
 generalize p.getD c 0 = x at *
 generalize nI p = C at *
 simp only [nthC,tlC,fstC,B93]
 simp [book,bookU,logOf,addLog,chk1,lookL,reload,veq,hbe,hpb,hlt,hc,g,g',ha,hl,hs,he1,fin93]
 exact hR
end
end Go.Proofs.YtjpjohchdfoeaaaGreat
