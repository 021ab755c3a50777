/-
  No cell of these rows narrows 'for every input' (looked for: loops, veiled, ifaces, maps, wideKeys, modest, calm, conditions, laid).
  DERIVED. THE GIVEN ROWS OF THIS SEAT. 6 by the template 'for every input the law returns true; each argument reads behind the call as it read before'; 0 by the template 'total and deterministic' (their statements: YtjpjohchdfoeaaaGreatTotals.lean).
  GIVEN WITH THE SEED: the statements are not yours to turn. If you find one false, say at which input.
  Laid BY PROGRAM, IN A SANDBOX (cutbox-rows.mjs): the forced cells as the released guide's own fill.sh prints them over the translation b15b374e656aaa24… (all of the seat's roots in one cut). By AI agents, Wed Nov 11 2026. No macro, syntax, notation, axiom, sorry.
-/
import Derived.Test.YtjpjohchdfoeaaaGreatChecked
import GoSem.Claim
import GoSem.ClaimJoined
import GoSem.ClaimMapViews
import Derived.JoinedTies
import Derived.KernelRfl
namespace Go.Proofs.YtjpjohchdfoeaaaGreat
/- THE CELL 'sum', in the pinned program and in every row, IS THE sha256 OF THE DUMP (.gsa) THAT YtjpjohchdfoeaaaGreatProg.lean LOADS. Nothing in Lean hashes anything: it is a label: what it is worth is what the hold of that sum in a sandbox is worth. -/
noncomputable def Tryz.pinned : Pinned := { name := "ytjpjohchdfoeaaagreat", sum := "b15b374e656aaa24f4a1d014b407f5a02a53d04cac01a45f855ccd4a3212abfa", checked := Tryz.checked }
namespace Rows
def none {H : Type} : Left H := { results := [], args := [] }

/-- 'waveletlaw18.BlockdecDecodes': WHATEVER THE INPUT: true; the input reads as it did. -/
def blockdecDecodesSpec : ChangeSpec := { name := "blockdecDecodes", fn := fun _ => fun
  | [d1, d2, d3] => { results := [.lit (.bool true)], args := [d1, d2, d3] }
  | _ => none }
def blockdecDecodesRow : OpenClaim := { program := "ytjpjohchdfoeaaagreat", sum := "b15b374e656aaa24f4a1d014b407f5a02a53d04cac01a45f855ccd4a3212abfa", func := "wavelet/waveletlaw18.BlockdecDecodes", spec := "blockdecDecodes", unfollowed := true, recurses := true, apart := false }
def BlockdecDecodesSaid : Prop := blockdecDecodesRow.holds Tryz.pinned (OpenSpec.ofChange blockdecDecodesSpec)

/-- ITS FALSE NEIGHBOUR: 'it returns false'. Refute it at one input. -/
def blockdecDecodesWrong : ChangeSpec := { name := "blockdecDecodes", fn := fun _ => fun
  | [d1, d2, d3] => { results := [.lit (.bool false)], args := [d1, d2, d3] }
  | _ => none }
def BlockdecDecodesWrongFalsely : Prop := blockdecDecodesRow.holds Tryz.pinned (OpenSpec.ofChange blockdecDecodesWrong)

/-- 'waveletlaw18.BlockdecSounds': WHATEVER THE INPUT: true; the input reads as it did. -/
def blockdecSoundsSpec : ChangeSpec := { name := "blockdecSounds", fn := fun _ => fun
  | [d1, d2, d3] => { results := [.lit (.bool true)], args := [d1, d2, d3] }
  | _ => none }
def blockdecSoundsRow : OpenClaim := { program := "ytjpjohchdfoeaaagreat", sum := "b15b374e656aaa24f4a1d014b407f5a02a53d04cac01a45f855ccd4a3212abfa", func := "wavelet/waveletlaw18.BlockdecSounds", spec := "blockdecSounds", unfollowed := true, recurses := true, apart := false }
def BlockdecSoundsSaid : Prop := blockdecSoundsRow.holds Tryz.pinned (OpenSpec.ofChange blockdecSoundsSpec)

/-- ITS FALSE NEIGHBOUR: 'it returns false'. Refute it at one input. -/
def blockdecSoundsWrong : ChangeSpec := { name := "blockdecSounds", fn := fun _ => fun
  | [d1, d2, d3] => { results := [.lit (.bool false)], args := [d1, d2, d3] }
  | _ => none }
def BlockdecSoundsWrongFalsely : Prop := blockdecSoundsRow.holds Tryz.pinned (OpenSpec.ofChange blockdecSoundsWrong)

/-- 'waveletlaw17.BlockencEncodes': WHATEVER THE INPUT: true; the input reads as it did. -/
def blockencEncodesSpec : ChangeSpec := { name := "blockencEncodes", fn := fun _ => fun
  | [d1, d2] => { results := [.lit (.bool true)], args := [d1, d2] }
  | _ => none }
def blockencEncodesRow : OpenClaim := { program := "ytjpjohchdfoeaaagreat", sum := "b15b374e656aaa24f4a1d014b407f5a02a53d04cac01a45f855ccd4a3212abfa", func := "wavelet/waveletlaw17.BlockencEncodes", spec := "blockencEncodes", unfollowed := true, recurses := true, apart := false }
def BlockencEncodesSaid : Prop := blockencEncodesRow.holds Tryz.pinned (OpenSpec.ofChange blockencEncodesSpec)

/-- ITS FALSE NEIGHBOUR: 'it returns false'. Refute it at one input. -/
def blockencEncodesWrong : ChangeSpec := { name := "blockencEncodes", fn := fun _ => fun
  | [d1, d2] => { results := [.lit (.bool false)], args := [d1, d2] }
  | _ => none }
def BlockencEncodesWrongFalsely : Prop := blockencEncodesRow.holds Tryz.pinned (OpenSpec.ofChange blockencEncodesWrong)

/-- 'waveletlaw19.DistortCurves': WHATEVER THE INPUT: true; the input reads as it did. -/
def distortCurvesSpec : ChangeSpec := { name := "distortCurves", fn := fun _ => fun
  | [d1, d2, d3] => { results := [.lit (.bool true)], args := [d1, d2, d3] }
  | _ => none }
def distortCurvesRow : OpenClaim := { program := "ytjpjohchdfoeaaagreat", sum := "b15b374e656aaa24f4a1d014b407f5a02a53d04cac01a45f855ccd4a3212abfa", func := "wavelet/waveletlaw19.DistortCurves", spec := "distortCurves", unfollowed := true, recurses := true, apart := false }
def DistortCurvesSaid : Prop := distortCurvesRow.holds Tryz.pinned (OpenSpec.ofChange distortCurvesSpec)

/-- ITS FALSE NEIGHBOUR: 'it returns false'. Refute it at one input. -/
def distortCurvesWrong : ChangeSpec := { name := "distortCurves", fn := fun _ => fun
  | [d1, d2, d3] => { results := [.lit (.bool false)], args := [d1, d2, d3] }
  | _ => none }
def DistortCurvesWrongFalsely : Prop := distortCurvesRow.holds Tryz.pinned (OpenSpec.ofChange distortCurvesWrong)

/-- 'waveletlaw18.BlockdecPrefixes': WHATEVER THE INPUT: true; the input reads as it did. -/
def blockdecPrefixesSpec : ChangeSpec := { name := "blockdecPrefixes", fn := fun _ => fun
  | [d1, d2, d3] => { results := [.lit (.bool true)], args := [d1, d2, d3] }
  | _ => none }
def blockdecPrefixesRow : OpenClaim := { program := "ytjpjohchdfoeaaagreat", sum := "b15b374e656aaa24f4a1d014b407f5a02a53d04cac01a45f855ccd4a3212abfa", func := "wavelet/waveletlaw18.BlockdecPrefixes", spec := "blockdecPrefixes", unfollowed := true, recurses := true, apart := false }
def BlockdecPrefixesSaid : Prop := blockdecPrefixesRow.holds Tryz.pinned (OpenSpec.ofChange blockdecPrefixesSpec)

/-- ITS FALSE NEIGHBOUR: 'it returns false'. Refute it at one input. -/
def blockdecPrefixesWrong : ChangeSpec := { name := "blockdecPrefixes", fn := fun _ => fun
  | [d1, d2, d3] => { results := [.lit (.bool false)], args := [d1, d2, d3] }
  | _ => none }
def BlockdecPrefixesWrongFalsely : Prop := blockdecPrefixesRow.holds Tryz.pinned (OpenSpec.ofChange blockdecPrefixesWrong)

/-- 'waveletlaw19.DistortEnds': WHATEVER THE INPUT: true; the input reads as it did. -/
def distortEndsSpec : ChangeSpec := { name := "distortEnds", fn := fun _ => fun
  | [d1, d2] => { results := [.lit (.bool true)], args := [d1, d2] }
  | _ => none }
def distortEndsRow : OpenClaim := { program := "ytjpjohchdfoeaaagreat", sum := "b15b374e656aaa24f4a1d014b407f5a02a53d04cac01a45f855ccd4a3212abfa", func := "wavelet/waveletlaw19.DistortEnds", spec := "distortEnds", unfollowed := true, recurses := true, apart := false }
def DistortEndsSaid : Prop := distortEndsRow.holds Tryz.pinned (OpenSpec.ofChange distortEndsSpec)

/-- ITS FALSE NEIGHBOUR: 'it returns false'. Refute it at one input. -/
def distortEndsWrong : ChangeSpec := { name := "distortEnds", fn := fun _ => fun
  | [d1, d2] => { results := [.lit (.bool false)], args := [d1, d2] }
  | _ => none }
def DistortEndsWrongFalsely : Prop := distortEndsRow.holds Tryz.pinned (OpenSpec.ofChange distortEndsWrong)

/- THE SECOND FORM. 'bulk': how many values and letters a reading holds, each counted each time it is reached (what is shared counts as often as it is met; a slice's spare places count too). A statement '..UptoSaid' is the law's where the arguments, and the package variables that the reading takes, are together of bulk at most 1048576: NARROWER than '..Said'. Prove '..Said' where nothing that the law and all that it calls make is longer than what came in: it says more and counts as full. Else prove '..UptoSaid'. A law counts once. -/
mutual
def uptoBulk {H : Type} : DataW H → Nat
  | .lit (.string bytes) => bytes.length + 1
  | .lit _ => 1
  | .nil => 1
  | .ptr d => uptoBulk d + 1
  | .slice elems spare => uptoBulkAll elems + uptoBulkAll spare + 1
  | .agg parts => uptoBulkAll parts + 1
  | .iface _ d => uptoBulk d + 1
  | .map entries => uptoBulkEntries entries + 1
  | .held _ => 1
def uptoBulkAll {H : Type} : List (DataW H) → Nat
  | [] => 0
  | d :: r => uptoBulk d + uptoBulkAll r
def uptoBulkEntries {H : Type} : List (Lit × DataW H) → Nat
  | [] => 0
  | x :: r => uptoBulkEntry x + uptoBulkEntries r
def uptoBulkEntry {H : Type} : Lit × DataW H → Nat
  | (.string bytes, d) => bytes.length + uptoBulk d + 1
  | (_, d) => uptoBulk d + 1
 end
def uptoSmall : (H : Type) → List (DataW H) → Bool := fun _ ds => decide (uptoBulkAll ds ≤ 1048576)
def OpenSpec.upto (s : _root_.Go.ChangeSpec) : _root_.Go.OpenSpec := { _root_.Go.OpenSpec.ofChange s with cond := some uptoSmall }

/-- 'waveletlaw18.BlockdecDecodes', WHERE WHAT IT READS IS OF BULK AT MOST 1048576: true; the input reads as it did. -/
def blockdecDecodesUptoRow : OpenClaim := { program := "ytjpjohchdfoeaaagreat", sum := "b15b374e656aaa24f4a1d014b407f5a02a53d04cac01a45f855ccd4a3212abfa", func := "wavelet/waveletlaw18.BlockdecDecodes", spec := "blockdecDecodes", unfollowed := true, recurses := true, apart := false, narrowed := true }
def BlockdecDecodesUptoSaid : Prop := blockdecDecodesUptoRow.holds Tryz.pinned (OpenSpec.upto blockdecDecodesSpec)

/-- 'waveletlaw18.BlockdecSounds', WHERE WHAT IT READS IS OF BULK AT MOST 1048576: true; the input reads as it did. -/
def blockdecSoundsUptoRow : OpenClaim := { program := "ytjpjohchdfoeaaagreat", sum := "b15b374e656aaa24f4a1d014b407f5a02a53d04cac01a45f855ccd4a3212abfa", func := "wavelet/waveletlaw18.BlockdecSounds", spec := "blockdecSounds", unfollowed := true, recurses := true, apart := false, narrowed := true }
def BlockdecSoundsUptoSaid : Prop := blockdecSoundsUptoRow.holds Tryz.pinned (OpenSpec.upto blockdecSoundsSpec)

/-- 'waveletlaw17.BlockencEncodes', WHERE WHAT IT READS IS OF BULK AT MOST 1048576: true; the input reads as it did. -/
def blockencEncodesUptoRow : OpenClaim := { program := "ytjpjohchdfoeaaagreat", sum := "b15b374e656aaa24f4a1d014b407f5a02a53d04cac01a45f855ccd4a3212abfa", func := "wavelet/waveletlaw17.BlockencEncodes", spec := "blockencEncodes", unfollowed := true, recurses := true, apart := false, narrowed := true }
def BlockencEncodesUptoSaid : Prop := blockencEncodesUptoRow.holds Tryz.pinned (OpenSpec.upto blockencEncodesSpec)

/-- 'waveletlaw19.DistortCurves', WHERE WHAT IT READS IS OF BULK AT MOST 1048576: true; the input reads as it did. -/
def distortCurvesUptoRow : OpenClaim := { program := "ytjpjohchdfoeaaagreat", sum := "b15b374e656aaa24f4a1d014b407f5a02a53d04cac01a45f855ccd4a3212abfa", func := "wavelet/waveletlaw19.DistortCurves", spec := "distortCurves", unfollowed := true, recurses := true, apart := false, narrowed := true }
def DistortCurvesUptoSaid : Prop := distortCurvesUptoRow.holds Tryz.pinned (OpenSpec.upto distortCurvesSpec)

/-- 'waveletlaw18.BlockdecPrefixes', WHERE WHAT IT READS IS OF BULK AT MOST 1048576: true; the input reads as it did. -/
def blockdecPrefixesUptoRow : OpenClaim := { program := "ytjpjohchdfoeaaagreat", sum := "b15b374e656aaa24f4a1d014b407f5a02a53d04cac01a45f855ccd4a3212abfa", func := "wavelet/waveletlaw18.BlockdecPrefixes", spec := "blockdecPrefixes", unfollowed := true, recurses := true, apart := false, narrowed := true }
def BlockdecPrefixesUptoSaid : Prop := blockdecPrefixesUptoRow.holds Tryz.pinned (OpenSpec.upto blockdecPrefixesSpec)

/-- 'waveletlaw19.DistortEnds', WHERE WHAT IT READS IS OF BULK AT MOST 1048576: true; the input reads as it did. -/
def distortEndsUptoRow : OpenClaim := { program := "ytjpjohchdfoeaaagreat", sum := "b15b374e656aaa24f4a1d014b407f5a02a53d04cac01a45f855ccd4a3212abfa", func := "wavelet/waveletlaw19.DistortEnds", spec := "distortEnds", unfollowed := true, recurses := true, apart := false, narrowed := true }
def DistortEndsUptoSaid : Prop := distortEndsUptoRow.holds Tryz.pinned (OpenSpec.upto distortEndsSpec)

end Rows
end Go.Proofs.YtjpjohchdfoeaaaGreat
