/-
  No cell of these rows narrows 'for every input' (looked for: loops, veiled, ifaces, maps, wideKeys, modest, calm, conditions, laid).
  DERIVED. THE GIVEN ROWS OF THIS SEAT. 11 by the template 'for every input the law returns true; each argument reads behind the call as it read before'; 0 by the template 'total and deterministic' (their statements: YtlflfkdnpalhlaaTotals.lean).
  GIVEN WITH THE SEED: the statements are not yours to turn. If you find one false, say at which input.
  Laid BY PROGRAM, IN A SANDBOX (cutbox-rows.mjs): the forced cells as the released guide's own fill.sh prints them over the translation fab20d0356a500c0… (all of the seat's roots in one cut). By AI agents, Wed Nov 11 2026. No macro, syntax, notation, axiom, sorry.
-/
import Derived.Test.YtlflfkdnpalhlaaChecked
import GoSem.Claim
import GoSem.ClaimJoined
import GoSem.ClaimMapViews
import Derived.JoinedTies
import Derived.KernelRfl
namespace Go.Proofs.Ytlflfkdnpalhlaa
/- THE CELL 'sum', in the pinned program and in every row, IS THE sha256 OF THE DUMP (.gsa) THAT YtlflfkdnpalhlaaProg.lean LOADS. Nothing in Lean hashes anything: it is a label: what it is worth is what the hold of that sum in a sandbox is worth. -/
noncomputable def Try.pinned : Pinned := { name := "ytlflfkdnpalhlaa", sum := "fab20d0356a500c0d75115d57bd116154c1b590b62aacdafb1bcb4f203d69c9f", checked := Try.checked }
namespace Rows
def none {H : Type} : Left H := { results := [], args := [] }

/-- 'waveletlaw12.RawbitsWrites': WHATEVER THE INPUT: true; the input reads as it did. -/
def rawbitsWritesSpec : ChangeSpec := { name := "rawbitsWrites", fn := fun _ => fun
  | [d] => { results := [.lit (.bool true)], args := [d] }
  | _ => none }
def rawbitsWritesRow : OpenClaim := { program := "ytlflfkdnpalhlaa", sum := "fab20d0356a500c0d75115d57bd116154c1b590b62aacdafb1bcb4f203d69c9f", func := "wavelet/waveletlaw12.RawbitsWrites", spec := "rawbitsWrites", apart := false }
def RawbitsWritesSaid : Prop := rawbitsWritesRow.holds Try.pinned (OpenSpec.ofChange rawbitsWritesSpec)

/-- ITS FALSE NEIGHBOUR: 'it returns false'. Refute it at one input. -/
def rawbitsWritesWrong : ChangeSpec := { name := "rawbitsWrites", fn := fun _ => fun
  | [d] => { results := [.lit (.bool false)], args := [d] }
  | _ => none }
def RawbitsWritesWrongFalsely : Prop := rawbitsWritesRow.holds Try.pinned (OpenSpec.ofChange rawbitsWritesWrong)

/-- 'waveletlaw12.RawbitsReads': WHATEVER THE INPUT: true; the input reads as it did. -/
def rawbitsReadsSpec : ChangeSpec := { name := "rawbitsReads", fn := fun _ => fun
  | [d1, d2] => { results := [.lit (.bool true)], args := [d1, d2] }
  | _ => none }
def rawbitsReadsRow : OpenClaim := { program := "ytlflfkdnpalhlaa", sum := "fab20d0356a500c0d75115d57bd116154c1b590b62aacdafb1bcb4f203d69c9f", func := "wavelet/waveletlaw12.RawbitsReads", spec := "rawbitsReads", apart := false }
def RawbitsReadsSaid : Prop := rawbitsReadsRow.holds Try.pinned (OpenSpec.ofChange rawbitsReadsSpec)

/-- ITS FALSE NEIGHBOUR: 'it returns false'. Refute it at one input. -/
def rawbitsReadsWrong : ChangeSpec := { name := "rawbitsReads", fn := fun _ => fun
  | [d1, d2] => { results := [.lit (.bool false)], args := [d1, d2] }
  | _ => none }
def RawbitsReadsWrongFalsely : Prop := rawbitsReadsRow.holds Try.pinned (OpenSpec.ofChange rawbitsReadsWrong)

/-- 'waveletlaw12.RawbitsRestores': WHATEVER THE INPUT: true; the input reads as it did. -/
def rawbitsRestoresSpec : ChangeSpec := { name := "rawbitsRestores", fn := fun _ => fun
  | [d1, d2, d3] => { results := [.lit (.bool true)], args := [d1, d2, d3] }
  | _ => none }
def rawbitsRestoresRow : OpenClaim := { program := "ytlflfkdnpalhlaa", sum := "fab20d0356a500c0d75115d57bd116154c1b590b62aacdafb1bcb4f203d69c9f", func := "wavelet/waveletlaw12.RawbitsRestores", spec := "rawbitsRestores", apart := false }
def RawbitsRestoresSaid : Prop := rawbitsRestoresRow.holds Try.pinned (OpenSpec.ofChange rawbitsRestoresSpec)

/-- ITS FALSE NEIGHBOUR: 'it returns false'. Refute it at one input. -/
def rawbitsRestoresWrong : ChangeSpec := { name := "rawbitsRestores", fn := fun _ => fun
  | [d1, d2, d3] => { results := [.lit (.bool false)], args := [d1, d2, d3] }
  | _ => none }
def RawbitsRestoresWrongFalsely : Prop := rawbitsRestoresRow.holds Try.pinned (OpenSpec.ofChange rawbitsRestoresWrong)

/-- 'waveletlaw12.RawbitsNone': WHATEVER THE INPUT: true; the input reads as it did. -/
def rawbitsNoneSpec : ChangeSpec := { name := "rawbitsNone", fn := fun _ => fun
  | [d] => { results := [.lit (.bool true)], args := [d] }
  | _ => none }
def rawbitsNoneRow : OpenClaim := { program := "ytlflfkdnpalhlaa", sum := "fab20d0356a500c0d75115d57bd116154c1b590b62aacdafb1bcb4f203d69c9f", func := "wavelet/waveletlaw12.RawbitsNone", spec := "rawbitsNone", apart := false }
def RawbitsNoneSaid : Prop := rawbitsNoneRow.holds Try.pinned (OpenSpec.ofChange rawbitsNoneSpec)

/-- ITS FALSE NEIGHBOUR: 'it returns false'. Refute it at one input. -/
def rawbitsNoneWrong : ChangeSpec := { name := "rawbitsNone", fn := fun _ => fun
  | [d] => { results := [.lit (.bool false)], args := [d] }
  | _ => none }
def RawbitsNoneWrongFalsely : Prop := rawbitsNoneRow.holds Try.pinned (OpenSpec.ofChange rawbitsNoneWrong)

/-- 'waveletlaw15.EncpassRuns': WHATEVER THE INPUT: true; the input reads as it did. -/
def encpassRunsSpec : ChangeSpec := { name := "encpassRuns", fn := fun _ => fun
  | [d1, d2, d3] => { results := [.lit (.bool true)], args := [d1, d2, d3] }
  | _ => none }
def encpassRunsRow : OpenClaim := { program := "ytlflfkdnpalhlaa", sum := "fab20d0356a500c0d75115d57bd116154c1b590b62aacdafb1bcb4f203d69c9f", func := "wavelet/waveletlaw15.EncpassRuns", spec := "encpassRuns", unfollowed := true, recurses := true, apart := false }
def EncpassRunsSaid : Prop := encpassRunsRow.holds Try.pinned (OpenSpec.ofChange encpassRunsSpec)

/-- ITS FALSE NEIGHBOUR: 'it returns false'. Refute it at one input. -/
def encpassRunsWrong : ChangeSpec := { name := "encpassRuns", fn := fun _ => fun
  | [d1, d2, d3] => { results := [.lit (.bool false)], args := [d1, d2, d3] }
  | _ => none }
def EncpassRunsWrongFalsely : Prop := encpassRunsRow.holds Try.pinned (OpenSpec.ofChange encpassRunsWrong)

/-- 'waveletlaw15.EncpassSymbols': WHATEVER THE INPUT: true; the input reads as it did. -/
def encpassSymbolsSpec : ChangeSpec := { name := "encpassSymbols", fn := fun _ => fun
  | [d] => { results := [.lit (.bool true)], args := [d] }
  | _ => none }
def encpassSymbolsRow : OpenClaim := { program := "ytlflfkdnpalhlaa", sum := "fab20d0356a500c0d75115d57bd116154c1b590b62aacdafb1bcb4f203d69c9f", func := "wavelet/waveletlaw15.EncpassSymbols", spec := "encpassSymbols", unfollowed := true, recurses := true, apart := false }
def EncpassSymbolsSaid : Prop := encpassSymbolsRow.holds Try.pinned (OpenSpec.ofChange encpassSymbolsSpec)

/-- ITS FALSE NEIGHBOUR: 'it returns false'. Refute it at one input. -/
def encpassSymbolsWrong : ChangeSpec := { name := "encpassSymbols", fn := fun _ => fun
  | [d] => { results := [.lit (.bool false)], args := [d] }
  | _ => none }
def EncpassSymbolsWrongFalsely : Prop := encpassSymbolsRow.holds Try.pinned (OpenSpec.ofChange encpassSymbolsWrong)

/-- 'waveletlaw15.EncpassPlanes': WHATEVER THE INPUT: true; the input reads as it did. -/
def encpassPlanesSpec : ChangeSpec := { name := "encpassPlanes", fn := fun _ => fun
  | [d] => { results := [.lit (.bool true)], args := [d] }
  | _ => none }
def encpassPlanesRow : OpenClaim := { program := "ytlflfkdnpalhlaa", sum := "fab20d0356a500c0d75115d57bd116154c1b590b62aacdafb1bcb4f203d69c9f", func := "wavelet/waveletlaw15.EncpassPlanes", spec := "encpassPlanes", unfollowed := true, recurses := true, apart := false }
def EncpassPlanesSaid : Prop := encpassPlanesRow.holds Try.pinned (OpenSpec.ofChange encpassPlanesSpec)

/-- ITS FALSE NEIGHBOUR: 'it returns false'. Refute it at one input. -/
def encpassPlanesWrong : ChangeSpec := { name := "encpassPlanes", fn := fun _ => fun
  | [d] => { results := [.lit (.bool false)], args := [d] }
  | _ => none }
def EncpassPlanesWrongFalsely : Prop := encpassPlanesRow.holds Try.pinned (OpenSpec.ofChange encpassPlanesWrong)

/-- 'waveletlaw15.EncpassShape': WHATEVER THE INPUT: true; the input reads as it did. -/
def encpassShapeSpec : ChangeSpec := { name := "encpassShape", fn := fun _ => fun
  | [d] => { results := [.lit (.bool true)], args := [d] }
  | _ => none }
def encpassShapeRow : OpenClaim := { program := "ytlflfkdnpalhlaa", sum := "fab20d0356a500c0d75115d57bd116154c1b590b62aacdafb1bcb4f203d69c9f", func := "wavelet/waveletlaw15.EncpassShape", spec := "encpassShape", unfollowed := true, recurses := true, apart := false }
def EncpassShapeSaid : Prop := encpassShapeRow.holds Try.pinned (OpenSpec.ofChange encpassShapeSpec)

/-- ITS FALSE NEIGHBOUR: 'it returns false'. Refute it at one input. -/
def encpassShapeWrong : ChangeSpec := { name := "encpassShape", fn := fun _ => fun
  | [d] => { results := [.lit (.bool false)], args := [d] }
  | _ => none }
def EncpassShapeWrongFalsely : Prop := encpassShapeRow.holds Try.pinned (OpenSpec.ofChange encpassShapeWrong)

/-- 'waveletlaw15.EncpassPrefix': WHATEVER THE INPUT: true; the input reads as it did. -/
def encpassPrefixSpec : ChangeSpec := { name := "encpassPrefix", fn := fun _ => fun
  | [d1, d2] => { results := [.lit (.bool true)], args := [d1, d2] }
  | _ => none }
def encpassPrefixRow : OpenClaim := { program := "ytlflfkdnpalhlaa", sum := "fab20d0356a500c0d75115d57bd116154c1b590b62aacdafb1bcb4f203d69c9f", func := "wavelet/waveletlaw15.EncpassPrefix", spec := "encpassPrefix", unfollowed := true, recurses := true, apart := false }
def EncpassPrefixSaid : Prop := encpassPrefixRow.holds Try.pinned (OpenSpec.ofChange encpassPrefixSpec)

/-- ITS FALSE NEIGHBOUR: 'it returns false'. Refute it at one input. -/
def encpassPrefixWrong : ChangeSpec := { name := "encpassPrefix", fn := fun _ => fun
  | [d1, d2] => { results := [.lit (.bool false)], args := [d1, d2] }
  | _ => none }
def EncpassPrefixWrongFalsely : Prop := encpassPrefixRow.holds Try.pinned (OpenSpec.ofChange encpassPrefixWrong)

/-- 'waveletlaw15.EncpassCovers': WHATEVER THE INPUT: true; the input reads as it did. -/
def encpassCoversSpec : ChangeSpec := { name := "encpassCovers", fn := fun _ => fun
  | [d] => { results := [.lit (.bool true)], args := [d] }
  | _ => none }
def encpassCoversRow : OpenClaim := { program := "ytlflfkdnpalhlaa", sum := "fab20d0356a500c0d75115d57bd116154c1b590b62aacdafb1bcb4f203d69c9f", func := "wavelet/waveletlaw15.EncpassCovers", spec := "encpassCovers", unfollowed := true, recurses := true, apart := false }
def EncpassCoversSaid : Prop := encpassCoversRow.holds Try.pinned (OpenSpec.ofChange encpassCoversSpec)

/-- ITS FALSE NEIGHBOUR: 'it returns false'. Refute it at one input. -/
def encpassCoversWrong : ChangeSpec := { name := "encpassCovers", fn := fun _ => fun
  | [d] => { results := [.lit (.bool false)], args := [d] }
  | _ => none }
def EncpassCoversWrongFalsely : Prop := encpassCoversRow.holds Try.pinned (OpenSpec.ofChange encpassCoversWrong)

/-- 'waveletlaw15.EncpassNobody': WHATEVER THE INPUT: true; the input reads as it did. -/
def encpassNobodySpec : ChangeSpec := { name := "encpassNobody", fn := fun _ => fun
  | [d1, d2, d3, d4] => { results := [.lit (.bool true)], args := [d1, d2, d3, d4] }
  | _ => none }
def encpassNobodyRow : OpenClaim := { program := "ytlflfkdnpalhlaa", sum := "fab20d0356a500c0d75115d57bd116154c1b590b62aacdafb1bcb4f203d69c9f", func := "wavelet/waveletlaw15.EncpassNobody", spec := "encpassNobody", unfollowed := true, recurses := true, apart := false }
def EncpassNobodySaid : Prop := encpassNobodyRow.holds Try.pinned (OpenSpec.ofChange encpassNobodySpec)

/-- ITS FALSE NEIGHBOUR: 'it returns false'. Refute it at one input. -/
def encpassNobodyWrong : ChangeSpec := { name := "encpassNobody", fn := fun _ => fun
  | [d1, d2, d3, d4] => { results := [.lit (.bool false)], args := [d1, d2, d3, d4] }
  | _ => none }
def EncpassNobodyWrongFalsely : Prop := encpassNobodyRow.holds Try.pinned (OpenSpec.ofChange encpassNobodyWrong)

/- THE SECOND FORM. 'bulk': how many values and letters a reading holds, each counted each time it is reached (what is shared counts as often as it is met; a slice's spare places count too). A statement '..UptoSaid' is the law's where the arguments, and the package variables that the reading takes, are together of bulk at most 1048576: NARROWER than '..Said'. Prove '..Said' where nothing that the law and all that it calls make is longer than what came in: it says more and counts as full. Else prove '..UptoSaid'. A law counts once. -/
mutual
def uptoBulk {H : Type} : DataW H → Nat
  | .lit (.string bytes) => bytes.length + 1
  | .lit _ => 1
  | .nil => 1
  | .ptr d => uptoBulk d + 1
  | .slice elems spare => uptoBulkAll elems + uptoBulkAll spare + 1
  | .agg parts => uptoBulkAll parts + 1
  | .iface _ d => uptoBulk d + 1
  | .map entries => uptoBulkEntries entries + 1
  | .held _ => 1
def uptoBulkAll {H : Type} : List (DataW H) → Nat
  | [] => 0
  | d :: r => uptoBulk d + uptoBulkAll r
def uptoBulkEntries {H : Type} : List (Lit × DataW H) → Nat
  | [] => 0
  | x :: r => uptoBulkEntry x + uptoBulkEntries r
def uptoBulkEntry {H : Type} : Lit × DataW H → Nat
  | (.string bytes, d) => bytes.length + uptoBulk d + 1
  | (_, d) => uptoBulk d + 1
 end
def uptoSmall : (H : Type) → List (DataW H) → Bool := fun _ ds => decide (uptoBulkAll ds ≤ 1048576)
def OpenSpec.upto (s : _root_.Go.ChangeSpec) : _root_.Go.OpenSpec := { _root_.Go.OpenSpec.ofChange s with cond := some uptoSmall }

/-- 'waveletlaw12.RawbitsWrites', WHERE WHAT IT READS IS OF BULK AT MOST 1048576: true; the input reads as it did. -/
def rawbitsWritesUptoRow : OpenClaim := { program := "ytlflfkdnpalhlaa", sum := "fab20d0356a500c0d75115d57bd116154c1b590b62aacdafb1bcb4f203d69c9f", func := "wavelet/waveletlaw12.RawbitsWrites", spec := "rawbitsWrites", apart := false, narrowed := true }
def RawbitsWritesUptoSaid : Prop := rawbitsWritesUptoRow.holds Try.pinned (OpenSpec.upto rawbitsWritesSpec)

/-- 'waveletlaw12.RawbitsReads', WHERE WHAT IT READS IS OF BULK AT MOST 1048576: true; the input reads as it did. -/
def rawbitsReadsUptoRow : OpenClaim := { program := "ytlflfkdnpalhlaa", sum := "fab20d0356a500c0d75115d57bd116154c1b590b62aacdafb1bcb4f203d69c9f", func := "wavelet/waveletlaw12.RawbitsReads", spec := "rawbitsReads", apart := false, narrowed := true }
def RawbitsReadsUptoSaid : Prop := rawbitsReadsUptoRow.holds Try.pinned (OpenSpec.upto rawbitsReadsSpec)

/-- 'waveletlaw12.RawbitsRestores', WHERE WHAT IT READS IS OF BULK AT MOST 1048576: true; the input reads as it did. -/
def rawbitsRestoresUptoRow : OpenClaim := { program := "ytlflfkdnpalhlaa", sum := "fab20d0356a500c0d75115d57bd116154c1b590b62aacdafb1bcb4f203d69c9f", func := "wavelet/waveletlaw12.RawbitsRestores", spec := "rawbitsRestores", apart := false, narrowed := true }
def RawbitsRestoresUptoSaid : Prop := rawbitsRestoresUptoRow.holds Try.pinned (OpenSpec.upto rawbitsRestoresSpec)

/-- 'waveletlaw12.RawbitsNone', WHERE WHAT IT READS IS OF BULK AT MOST 1048576: true; the input reads as it did. -/
def rawbitsNoneUptoRow : OpenClaim := { program := "ytlflfkdnpalhlaa", sum := "fab20d0356a500c0d75115d57bd116154c1b590b62aacdafb1bcb4f203d69c9f", func := "wavelet/waveletlaw12.RawbitsNone", spec := "rawbitsNone", apart := false, narrowed := true }
def RawbitsNoneUptoSaid : Prop := rawbitsNoneUptoRow.holds Try.pinned (OpenSpec.upto rawbitsNoneSpec)

/-- 'waveletlaw15.EncpassRuns', WHERE WHAT IT READS IS OF BULK AT MOST 1048576: true; the input reads as it did. -/
def encpassRunsUptoRow : OpenClaim := { program := "ytlflfkdnpalhlaa", sum := "fab20d0356a500c0d75115d57bd116154c1b590b62aacdafb1bcb4f203d69c9f", func := "wavelet/waveletlaw15.EncpassRuns", spec := "encpassRuns", unfollowed := true, recurses := true, apart := false, narrowed := true }
def EncpassRunsUptoSaid : Prop := encpassRunsUptoRow.holds Try.pinned (OpenSpec.upto encpassRunsSpec)

/-- 'waveletlaw15.EncpassSymbols', WHERE WHAT IT READS IS OF BULK AT MOST 1048576: true; the input reads as it did. -/
def encpassSymbolsUptoRow : OpenClaim := { program := "ytlflfkdnpalhlaa", sum := "fab20d0356a500c0d75115d57bd116154c1b590b62aacdafb1bcb4f203d69c9f", func := "wavelet/waveletlaw15.EncpassSymbols", spec := "encpassSymbols", unfollowed := true, recurses := true, apart := false, narrowed := true }
def EncpassSymbolsUptoSaid : Prop := encpassSymbolsUptoRow.holds Try.pinned (OpenSpec.upto encpassSymbolsSpec)

/-- 'waveletlaw15.EncpassPlanes', WHERE WHAT IT READS IS OF BULK AT MOST 1048576: true; the input reads as it did. -/
def encpassPlanesUptoRow : OpenClaim := { program := "ytlflfkdnpalhlaa", sum := "fab20d0356a500c0d75115d57bd116154c1b590b62aacdafb1bcb4f203d69c9f", func := "wavelet/waveletlaw15.EncpassPlanes", spec := "encpassPlanes", unfollowed := true, recurses := true, apart := false, narrowed := true }
def EncpassPlanesUptoSaid : Prop := encpassPlanesUptoRow.holds Try.pinned (OpenSpec.upto encpassPlanesSpec)

/-- 'waveletlaw15.EncpassShape', WHERE WHAT IT READS IS OF BULK AT MOST 1048576: true; the input reads as it did. -/
def encpassShapeUptoRow : OpenClaim := { program := "ytlflfkdnpalhlaa", sum := "fab20d0356a500c0d75115d57bd116154c1b590b62aacdafb1bcb4f203d69c9f", func := "wavelet/waveletlaw15.EncpassShape", spec := "encpassShape", unfollowed := true, recurses := true, apart := false, narrowed := true }
def EncpassShapeUptoSaid : Prop := encpassShapeUptoRow.holds Try.pinned (OpenSpec.upto encpassShapeSpec)

/-- 'waveletlaw15.EncpassPrefix', WHERE WHAT IT READS IS OF BULK AT MOST 1048576: true; the input reads as it did. -/
def encpassPrefixUptoRow : OpenClaim := { program := "ytlflfkdnpalhlaa", sum := "fab20d0356a500c0d75115d57bd116154c1b590b62aacdafb1bcb4f203d69c9f", func := "wavelet/waveletlaw15.EncpassPrefix", spec := "encpassPrefix", unfollowed := true, recurses := true, apart := false, narrowed := true }
def EncpassPrefixUptoSaid : Prop := encpassPrefixUptoRow.holds Try.pinned (OpenSpec.upto encpassPrefixSpec)

/-- 'waveletlaw15.EncpassCovers', WHERE WHAT IT READS IS OF BULK AT MOST 1048576: true; the input reads as it did. -/
def encpassCoversUptoRow : OpenClaim := { program := "ytlflfkdnpalhlaa", sum := "fab20d0356a500c0d75115d57bd116154c1b590b62aacdafb1bcb4f203d69c9f", func := "wavelet/waveletlaw15.EncpassCovers", spec := "encpassCovers", unfollowed := true, recurses := true, apart := false, narrowed := true }
def EncpassCoversUptoSaid : Prop := encpassCoversUptoRow.holds Try.pinned (OpenSpec.upto encpassCoversSpec)

/-- 'waveletlaw15.EncpassNobody', WHERE WHAT IT READS IS OF BULK AT MOST 1048576: true; the input reads as it did. -/
def encpassNobodyUptoRow : OpenClaim := { program := "ytlflfkdnpalhlaa", sum := "fab20d0356a500c0d75115d57bd116154c1b590b62aacdafb1bcb4f203d69c9f", func := "wavelet/waveletlaw15.EncpassNobody", spec := "encpassNobody", unfollowed := true, recurses := true, apart := false, narrowed := true }
def EncpassNobodyUptoSaid : Prop := encpassNobodyUptoRow.holds Try.pinned (OpenSpec.upto encpassNobodySpec)

end Rows
end Go.Proofs.Ytlflfkdnpalhlaa
