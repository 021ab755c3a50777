/-
  DistortWeights, DistortErrors, DistortHalf, DistortTotals: the walks.
-/
import Derived.Test.YtjpjohchdfoeaaaQz
import Derived.Test.YtjpjohchdfoeaaaEx
namespace Go.Proofs.Ytjpjohchdfoeaaa
open Go Go.Sim
set_option linter.unusedSimpArgs false
set_option linter.unusedVariables false

section
variable {h : Heap}
theorem ret_weights {l i : Int} : Ret tab 14 [.int .i64 l, .int .i64 i] h fun v _ => v = .bool true := by
  have h1 := fun H R => weight_c (h := H) (R := R) (l := l) (i := i)
  have h2 := fun H R => weight_r (h := H) (R := R) (l := l) (i := i)
  rw [enter14, B14]
  generalize weightI l i = x at *
  simp [k_guard, h1, h2, ex_eq, fin14]
theorem ret_errors {c v m a b : Int} (w0 : (Lit.int .i64 c).wf = true) (w1 : (Lit.int .i64 v).wf = true) :
    Ret tab 15 [.int .i64 c, .agg #[.int .i64 v, .int .i64 m], .agg #[.int .i64 a, .int .i64 b]] h fun v _ => v = .bool true := by
  obtain ⟨c1, c2⟩ := wf_i64 w0
  obtain ⟨v1, v2⟩ := wf_i64 w1
  have h1 := fun H R => error_c (h := H) (R := R) (m := m) (a := a) (b := b) c1 c2 v1 v2
  have h2 := fun H R => error_r (h := H) (R := R) (m := m) (a := a) (b := b) c1 c2 v1 v2
  rw [enter15, B15]
  generalize errI c v m a b = x at *
  simp [k_guard, k_guardP, book, bookU, logOf, addLog, chk1, lookL, reload, app_len, app_add, app_zero, app_succ, h1, h2, ex_eq, fin15]
theorem ret_half {c a b : Int} : Ret tab 18 [.int .i64 c, .agg #[.int .i64 a, .int .i64 b]] h fun v _ => v = .bool true := by
  rw [enter18, B18]
  by_cases c1 : c < -1073741824
  · simp [k_guard, k_guardP, book, bookU, logOf, addLog, chk1, lookL, reload, app_len, app_add, app_zero, app_succ, c1, ex_eq, fin18]
  by_cases c2 : 1073741824 < c
  · simp [k_guard, k_guardP, book, bookU, logOf, addLog, chk1, lookL, reload, app_len, app_add, app_zero, app_succ, c1, c2, ex_eq, fin18]
  have hq := fun H R => qvalid_r (h := H) (R := R) (a := a) (b := b)
  by_cases hqo : QOk a b
  rotate_left
  · simp [k_guard, k_guardP, book, bookU, logOf, addLog, chk1, lookL, reload, app_len, app_add, app_zero, app_succ, c1, c2, hq, hqo, ex_eq, fin18]
  obtain ⟨l1, l2⟩ := half_law hqo (show -1073741824 ≤ c by omega) (show c ≤ 1073741824 by omega)
  have hz := fun H R => quantize_r (h := H) (R := R) hqo (show -1073741824 ≤ c by omega) (show c ≤ 1073741824 by omega)
  have hzr : -1073741824 ≤ quantI c a b ∧ quantI c a b ≤ 1073741824 := by
    unfold quantI
    split
    · have := qzP_rng hqo (n := -c) (by omega) (by omega); omega
    · have := qzP_rng hqo (n := c) (by omega) (by omega); omega
  have he := fun H R => error_c (h := H) (R := R) (c := c) (v := quantI c a b) (m := 0) (a := a) (b := b) (by omega) (by omega) (by omega) (by omega)
  have ht := fun H R => thr_r (h := H) (R := R) hqo
  have hr := errI_rng c (quantI c a b) 0 a b
  generalize errI c (quantI c a b) 0 a b = e at *
  generalize quantI c a b = q at *
  have w1 : IntKind.i64.wrap (2 * e) = 2 * e := wrapI (by omega) (by omega)
  by_cases hq0 : q = 0
  · have hlt := l1 hq0
    subst hq0
    simp [k_guard, k_guardP, book, bookU, logOf, addLog, chk1, lookL, reload, app_len, app_add, app_zero, app_succ, c1, c2, hq, hqo, hz, he, ht, fold1, foldO, max2_eq, hlt, ex_eq, fin18]
  · have hle := l2 hq0
    have hq0' : (q == 0) = false := by simp [hq0]
    simp [k_guard, k_guardP, book, bookU, logOf, addLog, chk1, lookL, reload, app_len, app_add, app_zero, app_succ, c1, c2, hq, hqo, hz, he, hq0, hq0', w1, hle, ex_eq, fin18]
theorem totRes_r {s t u : Value} {cs vs ms : List Int} (hc : Rk .i64 h s cs) (hv : Rk .i64 h t vs) (hm : Rk .i64 h u ms) {a b w : Int}  :
    Ret tab 16 [.agg #[s, t, u], .agg #[.int .i64 a, .int .i64 b], .int .i64 w] h fun v _ => v = .bool true := by
  obtain ⟨sa, sc, hs⟩ := hc.sl.shape
  obtain ⟨ta, tc, ht⟩ := hv.sl.shape
  obtain ⟨ua, uc, hu⟩ := hm.sl.shape
  have k1 := hc.push [some ⟨false, [s, t, u]⟩, some ⟨false, [.int .i64 a, .int .i64 b]⟩]
  have k2 := hv.push [some ⟨false, [s, t, u]⟩, some ⟨false, [.int .i64 a, .int .i64 b]⟩]
  have k3 := hm.push [some ⟨false, [s, t, u]⟩, some ⟨false, [.int .i64 a, .int .i64 b]⟩]
  have h1 := fun R => total_c (R := R) k1 k2 k3 (a := a) (b := b) (w := w)
  have h2 := fun R => total_r (R := R) k1 k2 k3 (a := a) (b := b) (w := w)
  generalize totRes a b w cs vs ms = x at *
  rw [enter16, B16]
  rw [hs, ht, hu] at *
  by_cases n1 : (5000 : Int) < cs.length
  · simp [k_guard, k_guardP, book, bookU, logOf, addLog, chk1, lookL, reload, app_len, app_add, app_zero, app_succ, n1, ex_eq, fin16]
  by_cases n2 : (5000 : Int) < vs.length
  · simp [k_guard, k_guardP, book, bookU, logOf, addLog, chk1, lookL, reload, app_len, app_add, app_zero, app_succ, n1, n2, ex_eq, fin16]
  by_cases n3 : (5000 : Int) < ms.length
  · simp [k_guard, k_guardP, book, bookU, logOf, addLog, chk1, lookL, reload, app_len, app_add, app_zero, app_succ, n1, n2, n3, ex_eq, fin16]
  simp [k_guard, k_guardP, book, bookU, logOf, addLog, chk1, lookL, reload, app_len, app_add, app_zero, app_succ, n1, n2, n3, h1, h2, ex_eq, fin16]
end
end Go.Proofs.Ytjpjohchdfoeaaa
