/-
  No cell of these rows narrows 'for every input' (looked for: loops, veiled, ifaces, maps, wideKeys, modest, calm, conditions, laid).
  DERIVED. THE GIVEN ROWS OF THIS SEAT. 17 by the template 'for every input the law returns true; each argument reads behind the call as it read before'; 0 by the template 'total and deterministic' (their statements: YtjpjohchdfoeaaaTotals.lean).
  GIVEN WITH THE SEED: the statements are not yours to turn. If you find one false, say at which input.
  Laid BY PROGRAM, IN A SANDBOX (cutbox-rows.mjs): the forced cells as the released guide's own fill.sh prints them over the translation 7609ab0d9ac39e66… (all of the seat's roots in one cut). By AI agents, Wed Nov 11 2026. No macro, syntax, notation, axiom, sorry.
-/
import Derived.Test.YtjpjohchdfoeaaaChecked
import GoSem.Claim
import GoSem.ClaimJoined
import GoSem.ClaimMapViews
import Derived.JoinedTies
import Derived.KernelRfl
namespace Go.Proofs.Ytjpjohchdfoeaaa
/- THE CELL 'sum', in the pinned program and in every row, IS THE sha256 OF THE DUMP (.gsa) THAT YtjpjohchdfoeaaaProg.lean LOADS. Nothing in Lean hashes anything: it is a label: what it is worth is what the hold of that sum in a sandbox is worth. -/
noncomputable def Try.pinned : Pinned := { name := "ytjpjohchdfoeaaa", sum := "7609ab0d9ac39e66a72e267a788b4e775aae6d4172f913ba7a3236c973aac41d", checked := Try.checked }
namespace Rows
def none {H : Type} : Left H := { results := [], args := [] }

/-- 'waveletlaw16.DecpassRuns': WHATEVER THE INPUT: true; the input reads as it did. -/
def decpassRunsSpec : ChangeSpec := { name := "decpassRuns", fn := fun _ => fun
  | [d1, d2, d3, d4] => { results := [.lit (.bool true)], args := [d1, d2, d3, d4] }
  | _ => none }
def decpassRunsRow : OpenClaim := { program := "ytjpjohchdfoeaaa", sum := "7609ab0d9ac39e66a72e267a788b4e775aae6d4172f913ba7a3236c973aac41d", func := "wavelet/waveletlaw16.DecpassRuns", spec := "decpassRuns", unfollowed := true, recurses := true, apart := false }
def DecpassRunsSaid : Prop := decpassRunsRow.holds Try.pinned (OpenSpec.ofChange decpassRunsSpec)

/-- ITS FALSE NEIGHBOUR: 'it returns false'. Refute it at one input. -/
def decpassRunsWrong : ChangeSpec := { name := "decpassRuns", fn := fun _ => fun
  | [d1, d2, d3, d4] => { results := [.lit (.bool false)], args := [d1, d2, d3, d4] }
  | _ => none }
def DecpassRunsWrongFalsely : Prop := decpassRunsRow.holds Try.pinned (OpenSpec.ofChange decpassRunsWrong)

/-- 'waveletlaw16.DecpassValues': WHATEVER THE INPUT: true; the input reads as it did. -/
def decpassValuesSpec : ChangeSpec := { name := "decpassValues", fn := fun _ => fun
  | [d] => { results := [.lit (.bool true)], args := [d] }
  | _ => none }
def decpassValuesRow : OpenClaim := { program := "ytjpjohchdfoeaaa", sum := "7609ab0d9ac39e66a72e267a788b4e775aae6d4172f913ba7a3236c973aac41d", func := "wavelet/waveletlaw16.DecpassValues", spec := "decpassValues", unfollowed := true, recurses := true, apart := false }
def DecpassValuesSaid : Prop := decpassValuesRow.holds Try.pinned (OpenSpec.ofChange decpassValuesSpec)

/-- ITS FALSE NEIGHBOUR: 'it returns false'. Refute it at one input. -/
def decpassValuesWrong : ChangeSpec := { name := "decpassValues", fn := fun _ => fun
  | [d] => { results := [.lit (.bool false)], args := [d] }
  | _ => none }
def DecpassValuesWrongFalsely : Prop := decpassValuesRow.holds Try.pinned (OpenSpec.ofChange decpassValuesWrong)

/-- 'waveletlaw16.DecpassNobody': WHATEVER THE INPUT: true; the input reads as it did. -/
def decpassNobodySpec : ChangeSpec := { name := "decpassNobody", fn := fun _ => fun
  | [d1, d2, d3, d4] => { results := [.lit (.bool true)], args := [d1, d2, d3, d4] }
  | _ => none }
def decpassNobodyRow : OpenClaim := { program := "ytjpjohchdfoeaaa", sum := "7609ab0d9ac39e66a72e267a788b4e775aae6d4172f913ba7a3236c973aac41d", func := "wavelet/waveletlaw16.DecpassNobody", spec := "decpassNobody", unfollowed := true, recurses := true, apart := false }
def DecpassNobodySaid : Prop := decpassNobodyRow.holds Try.pinned (OpenSpec.ofChange decpassNobodySpec)

/-- ITS FALSE NEIGHBOUR: 'it returns false'. Refute it at one input. -/
def decpassNobodyWrong : ChangeSpec := { name := "decpassNobody", fn := fun _ => fun
  | [d1, d2, d3, d4] => { results := [.lit (.bool false)], args := [d1, d2, d3, d4] }
  | _ => none }
def DecpassNobodyWrongFalsely : Prop := decpassNobodyRow.holds Try.pinned (OpenSpec.ofChange decpassNobodyWrong)

/-- 'waveletlaw16.DecpassReturns': WHATEVER THE INPUT: true; the input reads as it did. -/
def decpassReturnsSpec : ChangeSpec := { name := "decpassReturns", fn := fun _ => fun
  | [d] => { results := [.lit (.bool true)], args := [d] }
  | _ => none }
def decpassReturnsRow : OpenClaim := { program := "ytjpjohchdfoeaaa", sum := "7609ab0d9ac39e66a72e267a788b4e775aae6d4172f913ba7a3236c973aac41d", func := "wavelet/waveletlaw16.DecpassReturns", spec := "decpassReturns", unfollowed := true, recurses := true, apart := false }
def DecpassReturnsSaid : Prop := decpassReturnsRow.holds Try.pinned (OpenSpec.ofChange decpassReturnsSpec)

/-- ITS FALSE NEIGHBOUR: 'it returns false'. Refute it at one input. -/
def decpassReturnsWrong : ChangeSpec := { name := "decpassReturns", fn := fun _ => fun
  | [d] => { results := [.lit (.bool false)], args := [d] }
  | _ => none }
def DecpassReturnsWrongFalsely : Prop := decpassReturnsRow.holds Try.pinned (OpenSpec.ofChange decpassReturnsWrong)

/-- 'waveletlaw16.DecpassPrefix': WHATEVER THE INPUT: true; the input reads as it did. -/
def decpassPrefixSpec : ChangeSpec := { name := "decpassPrefix", fn := fun _ => fun
  | [d1, d2] => { results := [.lit (.bool true)], args := [d1, d2] }
  | _ => none }
def decpassPrefixRow : OpenClaim := { program := "ytjpjohchdfoeaaa", sum := "7609ab0d9ac39e66a72e267a788b4e775aae6d4172f913ba7a3236c973aac41d", func := "wavelet/waveletlaw16.DecpassPrefix", spec := "decpassPrefix", unfollowed := true, recurses := true, apart := false }
def DecpassPrefixSaid : Prop := decpassPrefixRow.holds Try.pinned (OpenSpec.ofChange decpassPrefixSpec)

/-- ITS FALSE NEIGHBOUR: 'it returns false'. Refute it at one input. -/
def decpassPrefixWrong : ChangeSpec := { name := "decpassPrefix", fn := fun _ => fun
  | [d1, d2] => { results := [.lit (.bool false)], args := [d1, d2] }
  | _ => none }
def DecpassPrefixWrongFalsely : Prop := decpassPrefixRow.holds Try.pinned (OpenSpec.ofChange decpassPrefixWrong)

/-- 'waveletlaw16.DecpassRejects': WHATEVER THE INPUT: true; the input reads as it did. -/
def decpassRejectsSpec : ChangeSpec := { name := "decpassRejects", fn := fun _ => fun
  | [d1, d2, d3, d4] => { results := [.lit (.bool true)], args := [d1, d2, d3, d4] }
  | _ => none }
def decpassRejectsRow : OpenClaim := { program := "ytjpjohchdfoeaaa", sum := "7609ab0d9ac39e66a72e267a788b4e775aae6d4172f913ba7a3236c973aac41d", func := "wavelet/waveletlaw16.DecpassRejects", spec := "decpassRejects", unfollowed := true, recurses := true, apart := false }
def DecpassRejectsSaid : Prop := decpassRejectsRow.holds Try.pinned (OpenSpec.ofChange decpassRejectsSpec)

/-- ITS FALSE NEIGHBOUR: 'it returns false'. Refute it at one input. -/
def decpassRejectsWrong : ChangeSpec := { name := "decpassRejects", fn := fun _ => fun
  | [d1, d2, d3, d4] => { results := [.lit (.bool false)], args := [d1, d2, d3, d4] }
  | _ => none }
def DecpassRejectsWrongFalsely : Prop := decpassRejectsRow.holds Try.pinned (OpenSpec.ofChange decpassRejectsWrong)

/-- 'waveletlaw18.BlockdecTruncates': WHATEVER THE INPUT: true; the input reads as it did. -/
def blockdecTruncatesSpec : ChangeSpec := { name := "blockdecTruncates", fn := fun _ => fun
  | [d1, d2, d3] => { results := [.lit (.bool true)], args := [d1, d2, d3] }
  | _ => none }
def blockdecTruncatesRow : OpenClaim := { program := "ytjpjohchdfoeaaa", sum := "7609ab0d9ac39e66a72e267a788b4e775aae6d4172f913ba7a3236c973aac41d", func := "wavelet/waveletlaw18.BlockdecTruncates", spec := "blockdecTruncates", unfollowed := true, recurses := true, apart := false }
def BlockdecTruncatesSaid : Prop := blockdecTruncatesRow.holds Try.pinned (OpenSpec.ofChange blockdecTruncatesSpec)

/-- ITS FALSE NEIGHBOUR: 'it returns false'. Refute it at one input. -/
def blockdecTruncatesWrong : ChangeSpec := { name := "blockdecTruncates", fn := fun _ => fun
  | [d1, d2, d3] => { results := [.lit (.bool false)], args := [d1, d2, d3] }
  | _ => none }
def BlockdecTruncatesWrongFalsely : Prop := blockdecTruncatesRow.holds Try.pinned (OpenSpec.ofChange blockdecTruncatesWrong)

/-- 'waveletlaw17.BlockencValidates': WHATEVER THE INPUT: true; the input reads as it did. -/
def blockencValidatesSpec : ChangeSpec := { name := "blockencValidates", fn := fun _ => fun
  | [d1, d2] => { results := [.lit (.bool true)], args := [d1, d2] }
  | _ => none }
def blockencValidatesRow : OpenClaim := { program := "ytjpjohchdfoeaaa", sum := "7609ab0d9ac39e66a72e267a788b4e775aae6d4172f913ba7a3236c973aac41d", func := "wavelet/waveletlaw17.BlockencValidates", spec := "blockencValidates", unfollowed := true, recurses := true, apart := false }
def BlockencValidatesSaid : Prop := blockencValidatesRow.holds Try.pinned (OpenSpec.ofChange blockencValidatesSpec)

/-- ITS FALSE NEIGHBOUR: 'it returns false'. Refute it at one input. -/
def blockencValidatesWrong : ChangeSpec := { name := "blockencValidates", fn := fun _ => fun
  | [d1, d2] => { results := [.lit (.bool false)], args := [d1, d2] }
  | _ => none }
def BlockencValidatesWrongFalsely : Prop := blockencValidatesRow.holds Try.pinned (OpenSpec.ofChange blockencValidatesWrong)

/-- 'waveletlaw17.BlockencTruncates': WHATEVER THE INPUT: true; the input reads as it did. -/
def blockencTruncatesSpec : ChangeSpec := { name := "blockencTruncates", fn := fun _ => fun
  | [d1, d2, d3] => { results := [.lit (.bool true)], args := [d1, d2, d3] }
  | _ => none }
def blockencTruncatesRow : OpenClaim := { program := "ytjpjohchdfoeaaa", sum := "7609ab0d9ac39e66a72e267a788b4e775aae6d4172f913ba7a3236c973aac41d", func := "wavelet/waveletlaw17.BlockencTruncates", spec := "blockencTruncates", unfollowed := true, recurses := true, apart := false }
def BlockencTruncatesSaid : Prop := blockencTruncatesRow.holds Try.pinned (OpenSpec.ofChange blockencTruncatesSpec)

/-- ITS FALSE NEIGHBOUR: 'it returns false'. Refute it at one input. -/
def blockencTruncatesWrong : ChangeSpec := { name := "blockencTruncates", fn := fun _ => fun
  | [d1, d2, d3] => { results := [.lit (.bool false)], args := [d1, d2, d3] }
  | _ => none }
def BlockencTruncatesWrongFalsely : Prop := blockencTruncatesRow.holds Try.pinned (OpenSpec.ofChange blockencTruncatesWrong)

/-- 'waveletlaw17.BlockencFits': WHATEVER THE INPUT: true; the input reads as it did. -/
def blockencFitsSpec : ChangeSpec := { name := "blockencFits", fn := fun _ => fun
  | [d1, d2] => { results := [.lit (.bool true)], args := [d1, d2] }
  | _ => none }
def blockencFitsRow : OpenClaim := { program := "ytjpjohchdfoeaaa", sum := "7609ab0d9ac39e66a72e267a788b4e775aae6d4172f913ba7a3236c973aac41d", func := "wavelet/waveletlaw17.BlockencFits", spec := "blockencFits", unfollowed := true, recurses := true, apart := false }
def BlockencFitsSaid : Prop := blockencFitsRow.holds Try.pinned (OpenSpec.ofChange blockencFitsSpec)

/-- ITS FALSE NEIGHBOUR: 'it returns false'. Refute it at one input. -/
def blockencFitsWrong : ChangeSpec := { name := "blockencFits", fn := fun _ => fun
  | [d1, d2] => { results := [.lit (.bool false)], args := [d1, d2] }
  | _ => none }
def BlockencFitsWrongFalsely : Prop := blockencFitsRow.holds Try.pinned (OpenSpec.ofChange blockencFitsWrong)

/-- 'waveletlaw17.BlockencCuts': WHATEVER THE INPUT: true; the input reads as it did. -/
def blockencCutsSpec : ChangeSpec := { name := "blockencCuts", fn := fun _ => fun
  | [d1, d2, d3] => { results := [.lit (.bool true)], args := [d1, d2, d3] }
  | _ => none }
def blockencCutsRow : OpenClaim := { program := "ytjpjohchdfoeaaa", sum := "7609ab0d9ac39e66a72e267a788b4e775aae6d4172f913ba7a3236c973aac41d", func := "wavelet/waveletlaw17.BlockencCuts", spec := "blockencCuts", unfollowed := true, recurses := true, apart := false }
def BlockencCutsSaid : Prop := blockencCutsRow.holds Try.pinned (OpenSpec.ofChange blockencCutsSpec)

/-- ITS FALSE NEIGHBOUR: 'it returns false'. Refute it at one input. -/
def blockencCutsWrong : ChangeSpec := { name := "blockencCuts", fn := fun _ => fun
  | [d1, d2, d3] => { results := [.lit (.bool false)], args := [d1, d2, d3] }
  | _ => none }
def BlockencCutsWrongFalsely : Prop := blockencCutsRow.holds Try.pinned (OpenSpec.ofChange blockencCutsWrong)

/-- 'waveletlaw19.DistortWeights': WHATEVER THE INPUT: true; the input reads as it did. -/
def distortWeightsSpec : ChangeSpec := { name := "distortWeights", fn := fun _ => fun
  | [d1, d2] => { results := [.lit (.bool true)], args := [d1, d2] }
  | _ => none }
def distortWeightsRow : OpenClaim := { program := "ytjpjohchdfoeaaa", sum := "7609ab0d9ac39e66a72e267a788b4e775aae6d4172f913ba7a3236c973aac41d", func := "wavelet/waveletlaw19.DistortWeights", spec := "distortWeights", unfollowed := true, recurses := true, apart := false }
def DistortWeightsSaid : Prop := distortWeightsRow.holds Try.pinned (OpenSpec.ofChange distortWeightsSpec)

/-- ITS FALSE NEIGHBOUR: 'it returns false'. Refute it at one input. -/
def distortWeightsWrong : ChangeSpec := { name := "distortWeights", fn := fun _ => fun
  | [d1, d2] => { results := [.lit (.bool false)], args := [d1, d2] }
  | _ => none }
def DistortWeightsWrongFalsely : Prop := distortWeightsRow.holds Try.pinned (OpenSpec.ofChange distortWeightsWrong)

/-- 'waveletlaw19.DistortErrors': WHATEVER THE INPUT: true; the input reads as it did. -/
def distortErrorsSpec : ChangeSpec := { name := "distortErrors", fn := fun _ => fun
  | [d1, d2, d3] => { results := [.lit (.bool true)], args := [d1, d2, d3] }
  | _ => none }
def distortErrorsRow : OpenClaim := { program := "ytjpjohchdfoeaaa", sum := "7609ab0d9ac39e66a72e267a788b4e775aae6d4172f913ba7a3236c973aac41d", func := "wavelet/waveletlaw19.DistortErrors", spec := "distortErrors", unfollowed := true, recurses := true, apart := false }
def DistortErrorsSaid : Prop := distortErrorsRow.holds Try.pinned (OpenSpec.ofChange distortErrorsSpec)

/-- ITS FALSE NEIGHBOUR: 'it returns false'. Refute it at one input. -/
def distortErrorsWrong : ChangeSpec := { name := "distortErrors", fn := fun _ => fun
  | [d1, d2, d3] => { results := [.lit (.bool false)], args := [d1, d2, d3] }
  | _ => none }
def DistortErrorsWrongFalsely : Prop := distortErrorsRow.holds Try.pinned (OpenSpec.ofChange distortErrorsWrong)

/-- 'waveletlaw19.DistortTotals': WHATEVER THE INPUT: true; the input reads as it did. -/
def distortTotalsSpec : ChangeSpec := { name := "distortTotals", fn := fun _ => fun
  | [d1, d2, d3] => { results := [.lit (.bool true)], args := [d1, d2, d3] }
  | _ => none }
def distortTotalsRow : OpenClaim := { program := "ytjpjohchdfoeaaa", sum := "7609ab0d9ac39e66a72e267a788b4e775aae6d4172f913ba7a3236c973aac41d", func := "wavelet/waveletlaw19.DistortTotals", spec := "distortTotals", unfollowed := true, recurses := true, apart := false }
def DistortTotalsSaid : Prop := distortTotalsRow.holds Try.pinned (OpenSpec.ofChange distortTotalsSpec)

/-- ITS FALSE NEIGHBOUR: 'it returns false'. Refute it at one input. -/
def distortTotalsWrong : ChangeSpec := { name := "distortTotals", fn := fun _ => fun
  | [d1, d2, d3] => { results := [.lit (.bool false)], args := [d1, d2, d3] }
  | _ => none }
def DistortTotalsWrongFalsely : Prop := distortTotalsRow.holds Try.pinned (OpenSpec.ofChange distortTotalsWrong)

/-- 'waveletlaw19.DistortAdds': WHATEVER THE INPUT: true; the input reads as it did. -/
def distortAddsSpec : ChangeSpec := { name := "distortAdds", fn := fun _ => fun
  | [d1, d2, d3] => { results := [.lit (.bool true)], args := [d1, d2, d3] }
  | _ => none }
def distortAddsRow : OpenClaim := { program := "ytjpjohchdfoeaaa", sum := "7609ab0d9ac39e66a72e267a788b4e775aae6d4172f913ba7a3236c973aac41d", func := "wavelet/waveletlaw19.DistortAdds", spec := "distortAdds", unfollowed := true, recurses := true, apart := false }
def DistortAddsSaid : Prop := distortAddsRow.holds Try.pinned (OpenSpec.ofChange distortAddsSpec)

/-- ITS FALSE NEIGHBOUR: 'it returns false'. Refute it at one input. -/
def distortAddsWrong : ChangeSpec := { name := "distortAdds", fn := fun _ => fun
  | [d1, d2, d3] => { results := [.lit (.bool false)], args := [d1, d2, d3] }
  | _ => none }
def DistortAddsWrongFalsely : Prop := distortAddsRow.holds Try.pinned (OpenSpec.ofChange distortAddsWrong)

/-- 'waveletlaw19.DistortHalf': WHATEVER THE INPUT: true; the input reads as it did. -/
def distortHalfSpec : ChangeSpec := { name := "distortHalf", fn := fun _ => fun
  | [d1, d2] => { results := [.lit (.bool true)], args := [d1, d2] }
  | _ => none }
def distortHalfRow : OpenClaim := { program := "ytjpjohchdfoeaaa", sum := "7609ab0d9ac39e66a72e267a788b4e775aae6d4172f913ba7a3236c973aac41d", func := "wavelet/waveletlaw19.DistortHalf", spec := "distortHalf", unfollowed := true, recurses := true, apart := false }
def DistortHalfSaid : Prop := distortHalfRow.holds Try.pinned (OpenSpec.ofChange distortHalfSpec)

/-- ITS FALSE NEIGHBOUR: 'it returns false'. Refute it at one input. -/
def distortHalfWrong : ChangeSpec := { name := "distortHalf", fn := fun _ => fun
  | [d1, d2] => { results := [.lit (.bool false)], args := [d1, d2] }
  | _ => none }
def DistortHalfWrongFalsely : Prop := distortHalfRow.holds Try.pinned (OpenSpec.ofChange distortHalfWrong)

/-- 'waveletlaw18.BlockdecRestores': WHATEVER THE INPUT: true; the input reads as it did. -/
def blockdecRestoresSpec : ChangeSpec := { name := "blockdecRestores", fn := fun _ => fun
  | [d1, d2] => { results := [.lit (.bool true)], args := [d1, d2] }
  | _ => none }
def blockdecRestoresRow : OpenClaim := { program := "ytjpjohchdfoeaaa", sum := "7609ab0d9ac39e66a72e267a788b4e775aae6d4172f913ba7a3236c973aac41d", func := "wavelet/waveletlaw18.BlockdecRestores", spec := "blockdecRestores", unfollowed := true, recurses := true, apart := false }
def BlockdecRestoresSaid : Prop := blockdecRestoresRow.holds Try.pinned (OpenSpec.ofChange blockdecRestoresSpec)

/-- ITS FALSE NEIGHBOUR: 'it returns false'. Refute it at one input. -/
def blockdecRestoresWrong : ChangeSpec := { name := "blockdecRestores", fn := fun _ => fun
  | [d1, d2] => { results := [.lit (.bool false)], args := [d1, d2] }
  | _ => none }
def BlockdecRestoresWrongFalsely : Prop := blockdecRestoresRow.holds Try.pinned (OpenSpec.ofChange blockdecRestoresWrong)

/- THE SECOND FORM. 'bulk': how many values and letters a reading holds, each counted each time it is reached (what is shared counts as often as it is met; a slice's spare places count too). A statement '..UptoSaid' is the law's where the arguments, and the package variables that the reading takes, are together of bulk at most 1048576: NARROWER than '..Said'. Prove '..Said' where nothing that the law and all that it calls make is longer than what came in: it says more and counts as full. Else prove '..UptoSaid'. A law counts once. -/
mutual
def uptoBulk {H : Type} : DataW H → Nat
  | .lit (.string bytes) => bytes.length + 1
  | .lit _ => 1
  | .nil => 1
  | .ptr d => uptoBulk d + 1
  | .slice elems spare => uptoBulkAll elems + uptoBulkAll spare + 1
  | .agg parts => uptoBulkAll parts + 1
  | .iface _ d => uptoBulk d + 1
  | .map entries => uptoBulkEntries entries + 1
  | .held _ => 1
def uptoBulkAll {H : Type} : List (DataW H) → Nat
  | [] => 0
  | d :: r => uptoBulk d + uptoBulkAll r
def uptoBulkEntries {H : Type} : List (Lit × DataW H) → Nat
  | [] => 0
  | x :: r => uptoBulkEntry x + uptoBulkEntries r
def uptoBulkEntry {H : Type} : Lit × DataW H → Nat
  | (.string bytes, d) => bytes.length + uptoBulk d + 1
  | (_, d) => uptoBulk d + 1
 end
def uptoSmall : (H : Type) → List (DataW H) → Bool := fun _ ds => decide (uptoBulkAll ds ≤ 1048576)
def OpenSpec.upto (s : _root_.Go.ChangeSpec) : _root_.Go.OpenSpec := { _root_.Go.OpenSpec.ofChange s with cond := some uptoSmall }

/-- 'waveletlaw16.DecpassRuns', WHERE WHAT IT READS IS OF BULK AT MOST 1048576: true; the input reads as it did. -/
def decpassRunsUptoRow : OpenClaim := { program := "ytjpjohchdfoeaaa", sum := "7609ab0d9ac39e66a72e267a788b4e775aae6d4172f913ba7a3236c973aac41d", func := "wavelet/waveletlaw16.DecpassRuns", spec := "decpassRuns", unfollowed := true, recurses := true, apart := false, narrowed := true }
def DecpassRunsUptoSaid : Prop := decpassRunsUptoRow.holds Try.pinned (OpenSpec.upto decpassRunsSpec)

/-- 'waveletlaw16.DecpassValues', WHERE WHAT IT READS IS OF BULK AT MOST 1048576: true; the input reads as it did. -/
def decpassValuesUptoRow : OpenClaim := { program := "ytjpjohchdfoeaaa", sum := "7609ab0d9ac39e66a72e267a788b4e775aae6d4172f913ba7a3236c973aac41d", func := "wavelet/waveletlaw16.DecpassValues", spec := "decpassValues", unfollowed := true, recurses := true, apart := false, narrowed := true }
def DecpassValuesUptoSaid : Prop := decpassValuesUptoRow.holds Try.pinned (OpenSpec.upto decpassValuesSpec)

/-- 'waveletlaw16.DecpassNobody', WHERE WHAT IT READS IS OF BULK AT MOST 1048576: true; the input reads as it did. -/
def decpassNobodyUptoRow : OpenClaim := { program := "ytjpjohchdfoeaaa", sum := "7609ab0d9ac39e66a72e267a788b4e775aae6d4172f913ba7a3236c973aac41d", func := "wavelet/waveletlaw16.DecpassNobody", spec := "decpassNobody", unfollowed := true, recurses := true, apart := false, narrowed := true }
def DecpassNobodyUptoSaid : Prop := decpassNobodyUptoRow.holds Try.pinned (OpenSpec.upto decpassNobodySpec)

/-- 'waveletlaw16.DecpassReturns', WHERE WHAT IT READS IS OF BULK AT MOST 1048576: true; the input reads as it did. -/
def decpassReturnsUptoRow : OpenClaim := { program := "ytjpjohchdfoeaaa", sum := "7609ab0d9ac39e66a72e267a788b4e775aae6d4172f913ba7a3236c973aac41d", func := "wavelet/waveletlaw16.DecpassReturns", spec := "decpassReturns", unfollowed := true, recurses := true, apart := false, narrowed := true }
def DecpassReturnsUptoSaid : Prop := decpassReturnsUptoRow.holds Try.pinned (OpenSpec.upto decpassReturnsSpec)

/-- 'waveletlaw16.DecpassPrefix', WHERE WHAT IT READS IS OF BULK AT MOST 1048576: true; the input reads as it did. -/
def decpassPrefixUptoRow : OpenClaim := { program := "ytjpjohchdfoeaaa", sum := "7609ab0d9ac39e66a72e267a788b4e775aae6d4172f913ba7a3236c973aac41d", func := "wavelet/waveletlaw16.DecpassPrefix", spec := "decpassPrefix", unfollowed := true, recurses := true, apart := false, narrowed := true }
def DecpassPrefixUptoSaid : Prop := decpassPrefixUptoRow.holds Try.pinned (OpenSpec.upto decpassPrefixSpec)

/-- 'waveletlaw16.DecpassRejects', WHERE WHAT IT READS IS OF BULK AT MOST 1048576: true; the input reads as it did. -/
def decpassRejectsUptoRow : OpenClaim := { program := "ytjpjohchdfoeaaa", sum := "7609ab0d9ac39e66a72e267a788b4e775aae6d4172f913ba7a3236c973aac41d", func := "wavelet/waveletlaw16.DecpassRejects", spec := "decpassRejects", unfollowed := true, recurses := true, apart := false, narrowed := true }
def DecpassRejectsUptoSaid : Prop := decpassRejectsUptoRow.holds Try.pinned (OpenSpec.upto decpassRejectsSpec)

/-- 'waveletlaw18.BlockdecTruncates', WHERE WHAT IT READS IS OF BULK AT MOST 1048576: true; the input reads as it did. -/
def blockdecTruncatesUptoRow : OpenClaim := { program := "ytjpjohchdfoeaaa", sum := "7609ab0d9ac39e66a72e267a788b4e775aae6d4172f913ba7a3236c973aac41d", func := "wavelet/waveletlaw18.BlockdecTruncates", spec := "blockdecTruncates", unfollowed := true, recurses := true, apart := false, narrowed := true }
def BlockdecTruncatesUptoSaid : Prop := blockdecTruncatesUptoRow.holds Try.pinned (OpenSpec.upto blockdecTruncatesSpec)

/-- 'waveletlaw17.BlockencValidates', WHERE WHAT IT READS IS OF BULK AT MOST 1048576: true; the input reads as it did. -/
def blockencValidatesUptoRow : OpenClaim := { program := "ytjpjohchdfoeaaa", sum := "7609ab0d9ac39e66a72e267a788b4e775aae6d4172f913ba7a3236c973aac41d", func := "wavelet/waveletlaw17.BlockencValidates", spec := "blockencValidates", unfollowed := true, recurses := true, apart := false, narrowed := true }
def BlockencValidatesUptoSaid : Prop := blockencValidatesUptoRow.holds Try.pinned (OpenSpec.upto blockencValidatesSpec)

/-- 'waveletlaw17.BlockencTruncates', WHERE WHAT IT READS IS OF BULK AT MOST 1048576: true; the input reads as it did. -/
def blockencTruncatesUptoRow : OpenClaim := { program := "ytjpjohchdfoeaaa", sum := "7609ab0d9ac39e66a72e267a788b4e775aae6d4172f913ba7a3236c973aac41d", func := "wavelet/waveletlaw17.BlockencTruncates", spec := "blockencTruncates", unfollowed := true, recurses := true, apart := false, narrowed := true }
def BlockencTruncatesUptoSaid : Prop := blockencTruncatesUptoRow.holds Try.pinned (OpenSpec.upto blockencTruncatesSpec)

/-- 'waveletlaw17.BlockencFits', WHERE WHAT IT READS IS OF BULK AT MOST 1048576: true; the input reads as it did. -/
def blockencFitsUptoRow : OpenClaim := { program := "ytjpjohchdfoeaaa", sum := "7609ab0d9ac39e66a72e267a788b4e775aae6d4172f913ba7a3236c973aac41d", func := "wavelet/waveletlaw17.BlockencFits", spec := "blockencFits", unfollowed := true, recurses := true, apart := false, narrowed := true }
def BlockencFitsUptoSaid : Prop := blockencFitsUptoRow.holds Try.pinned (OpenSpec.upto blockencFitsSpec)

/-- 'waveletlaw17.BlockencCuts', WHERE WHAT IT READS IS OF BULK AT MOST 1048576: true; the input reads as it did. -/
def blockencCutsUptoRow : OpenClaim := { program := "ytjpjohchdfoeaaa", sum := "7609ab0d9ac39e66a72e267a788b4e775aae6d4172f913ba7a3236c973aac41d", func := "wavelet/waveletlaw17.BlockencCuts", spec := "blockencCuts", unfollowed := true, recurses := true, apart := false, narrowed := true }
def BlockencCutsUptoSaid : Prop := blockencCutsUptoRow.holds Try.pinned (OpenSpec.upto blockencCutsSpec)

/-- 'waveletlaw19.DistortWeights', WHERE WHAT IT READS IS OF BULK AT MOST 1048576: true; the input reads as it did. -/
def distortWeightsUptoRow : OpenClaim := { program := "ytjpjohchdfoeaaa", sum := "7609ab0d9ac39e66a72e267a788b4e775aae6d4172f913ba7a3236c973aac41d", func := "wavelet/waveletlaw19.DistortWeights", spec := "distortWeights", unfollowed := true, recurses := true, apart := false, narrowed := true }
def DistortWeightsUptoSaid : Prop := distortWeightsUptoRow.holds Try.pinned (OpenSpec.upto distortWeightsSpec)

/-- 'waveletlaw19.DistortErrors', WHERE WHAT IT READS IS OF BULK AT MOST 1048576: true; the input reads as it did. -/
def distortErrorsUptoRow : OpenClaim := { program := "ytjpjohchdfoeaaa", sum := "7609ab0d9ac39e66a72e267a788b4e775aae6d4172f913ba7a3236c973aac41d", func := "wavelet/waveletlaw19.DistortErrors", spec := "distortErrors", unfollowed := true, recurses := true, apart := false, narrowed := true }
def DistortErrorsUptoSaid : Prop := distortErrorsUptoRow.holds Try.pinned (OpenSpec.upto distortErrorsSpec)

/-- 'waveletlaw19.DistortTotals', WHERE WHAT IT READS IS OF BULK AT MOST 1048576: true; the input reads as it did. -/
def distortTotalsUptoRow : OpenClaim := { program := "ytjpjohchdfoeaaa", sum := "7609ab0d9ac39e66a72e267a788b4e775aae6d4172f913ba7a3236c973aac41d", func := "wavelet/waveletlaw19.DistortTotals", spec := "distortTotals", unfollowed := true, recurses := true, apart := false, narrowed := true }
def DistortTotalsUptoSaid : Prop := distortTotalsUptoRow.holds Try.pinned (OpenSpec.upto distortTotalsSpec)

/-- 'waveletlaw19.DistortAdds', WHERE WHAT IT READS IS OF BULK AT MOST 1048576: true; the input reads as it did. -/
def distortAddsUptoRow : OpenClaim := { program := "ytjpjohchdfoeaaa", sum := "7609ab0d9ac39e66a72e267a788b4e775aae6d4172f913ba7a3236c973aac41d", func := "wavelet/waveletlaw19.DistortAdds", spec := "distortAdds", unfollowed := true, recurses := true, apart := false, narrowed := true }
def DistortAddsUptoSaid : Prop := distortAddsUptoRow.holds Try.pinned (OpenSpec.upto distortAddsSpec)

/-- 'waveletlaw19.DistortHalf', WHERE WHAT IT READS IS OF BULK AT MOST 1048576: true; the input reads as it did. -/
def distortHalfUptoRow : OpenClaim := { program := "ytjpjohchdfoeaaa", sum := "7609ab0d9ac39e66a72e267a788b4e775aae6d4172f913ba7a3236c973aac41d", func := "wavelet/waveletlaw19.DistortHalf", spec := "distortHalf", unfollowed := true, recurses := true, apart := false, narrowed := true }
def DistortHalfUptoSaid : Prop := distortHalfUptoRow.holds Try.pinned (OpenSpec.upto distortHalfSpec)

/-- 'waveletlaw18.BlockdecRestores', WHERE WHAT IT READS IS OF BULK AT MOST 1048576: true; the input reads as it did. -/
def blockdecRestoresUptoRow : OpenClaim := { program := "ytjpjohchdfoeaaa", sum := "7609ab0d9ac39e66a72e267a788b4e775aae6d4172f913ba7a3236c973aac41d", func := "wavelet/waveletlaw18.BlockdecRestores", spec := "blockdecRestores", unfollowed := true, recurses := true, apart := false, narrowed := true }
def BlockdecRestoresUptoSaid : Prop := blockdecRestoresUptoRow.holds Try.pinned (OpenSpec.upto blockdecRestoresSpec)

end Rows
end Go.Proofs.Ytjpjohchdfoeaaa
