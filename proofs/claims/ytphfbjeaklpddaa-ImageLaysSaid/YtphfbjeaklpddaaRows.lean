/-
  No cell of these rows narrows 'for every input' (looked for: loops, veiled, ifaces, maps, wideKeys, modest, calm, conditions, laid).
  DERIVED. THE GIVEN ROWS OF THIS SEAT. 8 by the template 'for every input the law returns true; each argument reads behind the call as it read before'; 0 by the template 'total and deterministic' (their statements: YtphfbjeaklpddaaTotals.lean).
  GIVEN WITH THE SEED: the statements are not yours to turn. If you find one false, say at which input.
  Laid BY PROGRAM, IN A SANDBOX (cutbox-rows.mjs): the forced cells as the released guide's own fill.sh prints them over the translation 9c73be6cb23a3bf2… (all of the seat's roots in one cut). By AI agents, Wed Nov 11 2026. No macro, syntax, notation, axiom, sorry.
-/
import Derived.Test.YtphfbjeaklpddaaChecked
import GoSem.Claim
import GoSem.ClaimJoined
import GoSem.ClaimMapViews
import Derived.JoinedTies
import Derived.KernelRfl
namespace Go.Proofs.Ytphfbjeaklpddaa
/- THE CELL 'sum', in the pinned program and in every row, IS THE sha256 OF THE DUMP (.gsa) THAT YtphfbjeaklpddaaProg.lean LOADS. Nothing in Lean hashes anything: it is a label: what it is worth is what the hold of that sum in a sandbox is worth. -/
noncomputable def Try.pinned : Pinned := { name := "ytphfbjeaklpddaa", sum := "9c73be6cb23a3bf22ccadfc45a5e38ff1b6ee7d0a144424a6881e0dfe42e5079", checked := Try.checked }
namespace Rows
def none {H : Type} : Left H := { results := [], args := [] }

/-- 'verdigrislaw42.ImageChecks': WHATEVER THE INPUT: true; the input reads as it did. -/
def imageChecksSpec : ChangeSpec := { name := "imageChecks", fn := fun _ => fun
  | [d1, d2, d3] => { results := [.lit (.bool true)], args := [d1, d2, d3] }
  | _ => none }
def imageChecksRow : OpenClaim := { program := "ytphfbjeaklpddaa", sum := "9c73be6cb23a3bf22ccadfc45a5e38ff1b6ee7d0a144424a6881e0dfe42e5079", func := "verdigris/verdigrislaw42.ImageChecks", spec := "imageChecks", unfollowed := true, recurses := true, apart := false }
def ImageChecksSaid : Prop := imageChecksRow.holds Try.pinned (OpenSpec.ofChange imageChecksSpec)

/-- ITS FALSE NEIGHBOUR: 'it returns false'. Refute it at one input. -/
def imageChecksWrong : ChangeSpec := { name := "imageChecks", fn := fun _ => fun
  | [d1, d2, d3] => { results := [.lit (.bool false)], args := [d1, d2, d3] }
  | _ => none }
def ImageChecksWrongFalsely : Prop := imageChecksRow.holds Try.pinned (OpenSpec.ofChange imageChecksWrong)

/-- 'verdigrislaw42.ImageGets': WHATEVER THE INPUT: true; the input reads as it did. -/
def imageGetsSpec : ChangeSpec := { name := "imageGets", fn := fun _ => fun
  | [d1, d2, d3, d4, d5, d6] => { results := [.lit (.bool true)], args := [d1, d2, d3, d4, d5, d6] }
  | _ => none }
def imageGetsRow : OpenClaim := { program := "ytphfbjeaklpddaa", sum := "9c73be6cb23a3bf22ccadfc45a5e38ff1b6ee7d0a144424a6881e0dfe42e5079", func := "verdigris/verdigrislaw42.ImageGets", spec := "imageGets", unfollowed := true, recurses := true, apart := false }
def ImageGetsSaid : Prop := imageGetsRow.holds Try.pinned (OpenSpec.ofChange imageGetsSpec)

/-- ITS FALSE NEIGHBOUR: 'it returns false'. Refute it at one input. -/
def imageGetsWrong : ChangeSpec := { name := "imageGets", fn := fun _ => fun
  | [d1, d2, d3, d4, d5, d6] => { results := [.lit (.bool false)], args := [d1, d2, d3, d4, d5, d6] }
  | _ => none }
def ImageGetsWrongFalsely : Prop := imageGetsRow.holds Try.pinned (OpenSpec.ofChange imageGetsWrong)

/-- 'verdigrislaw42.ImageSets': WHATEVER THE INPUT: true; the input reads as it did. -/
def imageSetsSpec : ChangeSpec := { name := "imageSets", fn := fun _ => fun
  | [d1, d2, d3] => { results := [.lit (.bool true)], args := [d1, d2, d3] }
  | _ => none }
def imageSetsRow : OpenClaim := { program := "ytphfbjeaklpddaa", sum := "9c73be6cb23a3bf22ccadfc45a5e38ff1b6ee7d0a144424a6881e0dfe42e5079", func := "verdigris/verdigrislaw42.ImageSets", spec := "imageSets", unfollowed := true, recurses := true, apart := false }
def ImageSetsSaid : Prop := imageSetsRow.holds Try.pinned (OpenSpec.ofChange imageSetsSpec)

/-- ITS FALSE NEIGHBOUR: 'it returns false'. Refute it at one input. -/
def imageSetsWrong : ChangeSpec := { name := "imageSets", fn := fun _ => fun
  | [d1, d2, d3] => { results := [.lit (.bool false)], args := [d1, d2, d3] }
  | _ => none }
def ImageSetsWrongFalsely : Prop := imageSetsRow.holds Try.pinned (OpenSpec.ofChange imageSetsWrong)

/-- 'verdigrislaw42.ImageTurns': WHATEVER THE INPUT: true; the input reads as it did. -/
def imageTurnsSpec : ChangeSpec := { name := "imageTurns", fn := fun _ => fun
  | [d1, d2, d3] => { results := [.lit (.bool true)], args := [d1, d2, d3] }
  | _ => none }
def imageTurnsRow : OpenClaim := { program := "ytphfbjeaklpddaa", sum := "9c73be6cb23a3bf22ccadfc45a5e38ff1b6ee7d0a144424a6881e0dfe42e5079", func := "verdigris/verdigrislaw42.ImageTurns", spec := "imageTurns", unfollowed := true, recurses := true, apart := false }
def ImageTurnsSaid : Prop := imageTurnsRow.holds Try.pinned (OpenSpec.ofChange imageTurnsSpec)

/-- ITS FALSE NEIGHBOUR: 'it returns false'. Refute it at one input. -/
def imageTurnsWrong : ChangeSpec := { name := "imageTurns", fn := fun _ => fun
  | [d1, d2, d3] => { results := [.lit (.bool false)], args := [d1, d2, d3] }
  | _ => none }
def ImageTurnsWrongFalsely : Prop := imageTurnsRow.holds Try.pinned (OpenSpec.ofChange imageTurnsWrong)

/-- 'verdigrislaw42.ImageShapes': WHATEVER THE INPUT: true; the input reads as it did. -/
def imageShapesSpec : ChangeSpec := { name := "imageShapes", fn := fun _ => fun
  | [d1, d2, d3, d4, d5, d6] => { results := [.lit (.bool true)], args := [d1, d2, d3, d4, d5, d6] }
  | _ => none }
def imageShapesRow : OpenClaim := { program := "ytphfbjeaklpddaa", sum := "9c73be6cb23a3bf22ccadfc45a5e38ff1b6ee7d0a144424a6881e0dfe42e5079", func := "verdigris/verdigrislaw42.ImageShapes", spec := "imageShapes", unfollowed := true, recurses := true, apart := false }
def ImageShapesSaid : Prop := imageShapesRow.holds Try.pinned (OpenSpec.ofChange imageShapesSpec)

/-- ITS FALSE NEIGHBOUR: 'it returns false'. Refute it at one input. -/
def imageShapesWrong : ChangeSpec := { name := "imageShapes", fn := fun _ => fun
  | [d1, d2, d3, d4, d5, d6] => { results := [.lit (.bool false)], args := [d1, d2, d3, d4, d5, d6] }
  | _ => none }
def ImageShapesWrongFalsely : Prop := imageShapesRow.holds Try.pinned (OpenSpec.ofChange imageShapesWrong)

/-- 'verdigrislaw42.ImageParts': WHATEVER THE INPUT: true; the input reads as it did. -/
def imagePartsSpec : ChangeSpec := { name := "imageParts", fn := fun _ => fun
  | [d1, d2, d3] => { results := [.lit (.bool true)], args := [d1, d2, d3] }
  | _ => none }
def imagePartsRow : OpenClaim := { program := "ytphfbjeaklpddaa", sum := "9c73be6cb23a3bf22ccadfc45a5e38ff1b6ee7d0a144424a6881e0dfe42e5079", func := "verdigris/verdigrislaw42.ImageParts", spec := "imageParts", unfollowed := true, recurses := true, apart := false }
def ImagePartsSaid : Prop := imagePartsRow.holds Try.pinned (OpenSpec.ofChange imagePartsSpec)

/-- ITS FALSE NEIGHBOUR: 'it returns false'. Refute it at one input. -/
def imagePartsWrong : ChangeSpec := { name := "imageParts", fn := fun _ => fun
  | [d1, d2, d3] => { results := [.lit (.bool false)], args := [d1, d2, d3] }
  | _ => none }
def ImagePartsWrongFalsely : Prop := imagePartsRow.holds Try.pinned (OpenSpec.ofChange imagePartsWrong)

/-- 'verdigrislaw42.ImageKnown': WHATEVER THE INPUT: true; the input reads as it did. -/
def imageKnownSpec : ChangeSpec := { name := "imageKnown", fn := fun _ => fun
  | [] => { results := [.lit (.bool true)], args := [] }
  | _ => none }
def imageKnownRow : OpenClaim := { program := "ytphfbjeaklpddaa", sum := "9c73be6cb23a3bf22ccadfc45a5e38ff1b6ee7d0a144424a6881e0dfe42e5079", func := "verdigris/verdigrislaw42.ImageKnown", spec := "imageKnown", unfollowed := true, recurses := true, apart := false }
def ImageKnownSaid : Prop := imageKnownRow.holds Try.pinned (OpenSpec.ofChange imageKnownSpec)

/-- ITS FALSE NEIGHBOUR: 'it returns false'. Refute it at one input. -/
def imageKnownWrong : ChangeSpec := { name := "imageKnown", fn := fun _ => fun
  | [] => { results := [.lit (.bool false)], args := [] }
  | _ => none }
def ImageKnownWrongFalsely : Prop := imageKnownRow.holds Try.pinned (OpenSpec.ofChange imageKnownWrong)

/-- 'verdigrislaw42.ImageLays': WHATEVER THE INPUT: true; the input reads as it did. -/
def imageLaysSpec : ChangeSpec := { name := "imageLays", fn := fun _ => fun
  | [d1, d2, d3, d4] => { results := [.lit (.bool true)], args := [d1, d2, d3, d4] }
  | _ => none }
def imageLaysRow : OpenClaim := { program := "ytphfbjeaklpddaa", sum := "9c73be6cb23a3bf22ccadfc45a5e38ff1b6ee7d0a144424a6881e0dfe42e5079", func := "verdigris/verdigrislaw42.ImageLays", spec := "imageLays", inPlace := ["internal/abi.NoEscape"], unfollowed := true, recurses := true, apart := false }
def ImageLaysSaid : Prop := imageLaysRow.holds Try.pinned (OpenSpec.ofChange imageLaysSpec)

/-- ITS FALSE NEIGHBOUR: 'it returns false'. Refute it at one input. -/
def imageLaysWrong : ChangeSpec := { name := "imageLays", fn := fun _ => fun
  | [d1, d2, d3, d4] => { results := [.lit (.bool false)], args := [d1, d2, d3, d4] }
  | _ => none }
def ImageLaysWrongFalsely : Prop := imageLaysRow.holds Try.pinned (OpenSpec.ofChange imageLaysWrong)

/- THE SECOND FORM. 'bulk': how many values and letters a reading holds, each counted each time it is reached (what is shared counts as often as it is met; a slice's spare places count too). A statement '..UptoSaid' is the law's where the arguments, and the package variables that the reading takes, are together of bulk at most 1048576: NARROWER than '..Said'. Prove '..Said' where nothing that the law and all that it calls make is longer than what came in: it says more and counts as full. Else prove '..UptoSaid'. A law counts once. -/
mutual
def uptoBulk {H : Type} : DataW H → Nat
  | .lit (.string bytes) => bytes.length + 1
  | .lit _ => 1
  | .nil => 1
  | .ptr d => uptoBulk d + 1
  | .slice elems spare => uptoBulkAll elems + uptoBulkAll spare + 1
  | .agg parts => uptoBulkAll parts + 1
  | .iface _ d => uptoBulk d + 1
  | .map entries => uptoBulkEntries entries + 1
  | .held _ => 1
def uptoBulkAll {H : Type} : List (DataW H) → Nat
  | [] => 0
  | d :: r => uptoBulk d + uptoBulkAll r
def uptoBulkEntries {H : Type} : List (Lit × DataW H) → Nat
  | [] => 0
  | x :: r => uptoBulkEntry x + uptoBulkEntries r
def uptoBulkEntry {H : Type} : Lit × DataW H → Nat
  | (.string bytes, d) => bytes.length + uptoBulk d + 1
  | (_, d) => uptoBulk d + 1
 end
def uptoSmall : (H : Type) → List (DataW H) → Bool := fun _ ds => decide (uptoBulkAll ds ≤ 1048576)
def OpenSpec.upto (s : _root_.Go.ChangeSpec) : _root_.Go.OpenSpec := { _root_.Go.OpenSpec.ofChange s with cond := some uptoSmall }

/-- 'verdigrislaw42.ImageChecks', WHERE WHAT IT READS IS OF BULK AT MOST 1048576: true; the input reads as it did. -/
def imageChecksUptoRow : OpenClaim := { program := "ytphfbjeaklpddaa", sum := "9c73be6cb23a3bf22ccadfc45a5e38ff1b6ee7d0a144424a6881e0dfe42e5079", func := "verdigris/verdigrislaw42.ImageChecks", spec := "imageChecks", unfollowed := true, recurses := true, apart := false, narrowed := true }
def ImageChecksUptoSaid : Prop := imageChecksUptoRow.holds Try.pinned (OpenSpec.upto imageChecksSpec)

/-- 'verdigrislaw42.ImageGets', WHERE WHAT IT READS IS OF BULK AT MOST 1048576: true; the input reads as it did. -/
def imageGetsUptoRow : OpenClaim := { program := "ytphfbjeaklpddaa", sum := "9c73be6cb23a3bf22ccadfc45a5e38ff1b6ee7d0a144424a6881e0dfe42e5079", func := "verdigris/verdigrislaw42.ImageGets", spec := "imageGets", unfollowed := true, recurses := true, apart := false, narrowed := true }
def ImageGetsUptoSaid : Prop := imageGetsUptoRow.holds Try.pinned (OpenSpec.upto imageGetsSpec)

/-- 'verdigrislaw42.ImageSets', WHERE WHAT IT READS IS OF BULK AT MOST 1048576: true; the input reads as it did. -/
def imageSetsUptoRow : OpenClaim := { program := "ytphfbjeaklpddaa", sum := "9c73be6cb23a3bf22ccadfc45a5e38ff1b6ee7d0a144424a6881e0dfe42e5079", func := "verdigris/verdigrislaw42.ImageSets", spec := "imageSets", unfollowed := true, recurses := true, apart := false, narrowed := true }
def ImageSetsUptoSaid : Prop := imageSetsUptoRow.holds Try.pinned (OpenSpec.upto imageSetsSpec)

/-- 'verdigrislaw42.ImageTurns', WHERE WHAT IT READS IS OF BULK AT MOST 1048576: true; the input reads as it did. -/
def imageTurnsUptoRow : OpenClaim := { program := "ytphfbjeaklpddaa", sum := "9c73be6cb23a3bf22ccadfc45a5e38ff1b6ee7d0a144424a6881e0dfe42e5079", func := "verdigris/verdigrislaw42.ImageTurns", spec := "imageTurns", unfollowed := true, recurses := true, apart := false, narrowed := true }
def ImageTurnsUptoSaid : Prop := imageTurnsUptoRow.holds Try.pinned (OpenSpec.upto imageTurnsSpec)

/-- 'verdigrislaw42.ImageShapes', WHERE WHAT IT READS IS OF BULK AT MOST 1048576: true; the input reads as it did. -/
def imageShapesUptoRow : OpenClaim := { program := "ytphfbjeaklpddaa", sum := "9c73be6cb23a3bf22ccadfc45a5e38ff1b6ee7d0a144424a6881e0dfe42e5079", func := "verdigris/verdigrislaw42.ImageShapes", spec := "imageShapes", unfollowed := true, recurses := true, apart := false, narrowed := true }
def ImageShapesUptoSaid : Prop := imageShapesUptoRow.holds Try.pinned (OpenSpec.upto imageShapesSpec)

/-- 'verdigrislaw42.ImageParts', WHERE WHAT IT READS IS OF BULK AT MOST 1048576: true; the input reads as it did. -/
def imagePartsUptoRow : OpenClaim := { program := "ytphfbjeaklpddaa", sum := "9c73be6cb23a3bf22ccadfc45a5e38ff1b6ee7d0a144424a6881e0dfe42e5079", func := "verdigris/verdigrislaw42.ImageParts", spec := "imageParts", unfollowed := true, recurses := true, apart := false, narrowed := true }
def ImagePartsUptoSaid : Prop := imagePartsUptoRow.holds Try.pinned (OpenSpec.upto imagePartsSpec)

/-- 'verdigrislaw42.ImageKnown', WHERE WHAT IT READS IS OF BULK AT MOST 1048576: true; the input reads as it did. -/
def imageKnownUptoRow : OpenClaim := { program := "ytphfbjeaklpddaa", sum := "9c73be6cb23a3bf22ccadfc45a5e38ff1b6ee7d0a144424a6881e0dfe42e5079", func := "verdigris/verdigrislaw42.ImageKnown", spec := "imageKnown", unfollowed := true, recurses := true, apart := false, narrowed := true }
def ImageKnownUptoSaid : Prop := imageKnownUptoRow.holds Try.pinned (OpenSpec.upto imageKnownSpec)

/-- 'verdigrislaw42.ImageLays', WHERE WHAT IT READS IS OF BULK AT MOST 1048576: true; the input reads as it did. -/
def imageLaysUptoRow : OpenClaim := { program := "ytphfbjeaklpddaa", sum := "9c73be6cb23a3bf22ccadfc45a5e38ff1b6ee7d0a144424a6881e0dfe42e5079", func := "verdigris/verdigrislaw42.ImageLays", spec := "imageLays", inPlace := ["internal/abi.NoEscape"], unfollowed := true, recurses := true, apart := false, narrowed := true }
def ImageLaysUptoSaid : Prop := imageLaysUptoRow.holds Try.pinned (OpenSpec.upto imageLaysSpec)

end Rows
end Go.Proofs.Ytphfbjeaklpddaa
