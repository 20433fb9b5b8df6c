/-
  No cell of these rows narrows 'for every input' (looked for: loops, veiled, ifaces, maps, wideKeys, modest, calm, conditions, laid).
  DERIVED. THE GIVEN ROWS OF THIS SEAT. 7 by the template 'for every input the law returns true; each argument reads behind the call as it read before'; 0 by the template 'total and deterministic' (their statements: YtaacgmcgmljjeaaGreatTotals.lean).
  GIVEN WITH THE SEED: the statements are not yours to turn. If you find one false, say at which input.
  Laid BY PROGRAM, IN A SANDBOX (cutbox-rows.mjs): the forced cells as the released guide's own fill.sh prints them over the translation 16da04eba1306c8e… (all of the seat's roots in one cut). By AI agents, Wed Nov 11 2026. No macro, syntax, notation, axiom, sorry.
-/
import Derived.Test.YtaacgmcgmljjeaaGreatChecked
import GoSem.Claim
import GoSem.ClaimJoined
import GoSem.ClaimMapViews
import Derived.JoinedTies
import Derived.KernelRfl
namespace Go.Proofs.YtaacgmcgmljjeaaGreat
/- THE CELL 'sum', in the pinned program and in every row, IS THE sha256 OF THE DUMP (.gsa) THAT YtaacgmcgmljjeaaGreatProg.lean LOADS. Nothing in Lean hashes anything: it is a label: what it is worth is what the hold of that sum in a sandbox is worth. -/
noncomputable def Tryz.pinned : Pinned := { name := "ytaacgmcgmljjeaagreat", sum := "16da04eba1306c8e4b028651ab1dd25fd863bbd0d43b3a8021a697c9a34ca5f9", checked := Tryz.checked }
namespace Rows
def none {H : Type} : Left H := { results := [], args := [] }

/-- 'verdigrislaw15.TagParses': WHATEVER THE INPUT: true; the input reads as it did. -/
def tagParsesSpec : ChangeSpec := { name := "tagParses", fn := fun _ => fun
  | [d1, d2, d3, d4, d5, d6] => { results := [.lit (.bool true)], args := [d1, d2, d3, d4, d5, d6] }
  | _ => none }
def tagParsesRow : OpenClaim := { program := "ytaacgmcgmljjeaagreat", sum := "16da04eba1306c8e4b028651ab1dd25fd863bbd0d43b3a8021a697c9a34ca5f9", func := "verdigris/verdigrislaw15.TagParses", spec := "tagParses", unfollowed := true, recurses := true, apart := false }
def TagParsesSaid : Prop := tagParsesRow.holds Tryz.pinned (OpenSpec.ofChange tagParsesSpec)

/-- ITS FALSE NEIGHBOUR: 'it returns false'. Refute it at one input. -/
def tagParsesWrong : ChangeSpec := { name := "tagParses", fn := fun _ => fun
  | [d1, d2, d3, d4, d5, d6] => { results := [.lit (.bool false)], args := [d1, d2, d3, d4, d5, d6] }
  | _ => none }
def TagParsesWrongFalsely : Prop := tagParsesRow.holds Tryz.pinned (OpenSpec.ofChange tagParsesWrong)

/-- 'verdigrislaw15.TagBack': WHATEVER THE INPUT: true; the input reads as it did. -/
def tagBackSpec : ChangeSpec := { name := "tagBack", fn := fun _ => fun
  | [d1, d2, d3] => { results := [.lit (.bool true)], args := [d1, d2, d3] }
  | _ => none }
def tagBackRow : OpenClaim := { program := "ytaacgmcgmljjeaagreat", sum := "16da04eba1306c8e4b028651ab1dd25fd863bbd0d43b3a8021a697c9a34ca5f9", func := "verdigris/verdigrislaw15.TagBack", spec := "tagBack", unfollowed := true, recurses := true, apart := false }
def TagBackSaid : Prop := tagBackRow.holds Tryz.pinned (OpenSpec.ofChange tagBackSpec)

/-- ITS FALSE NEIGHBOUR: 'it returns false'. Refute it at one input. -/
def tagBackWrong : ChangeSpec := { name := "tagBack", fn := fun _ => fun
  | [d1, d2, d3] => { results := [.lit (.bool false)], args := [d1, d2, d3] }
  | _ => none }
def TagBackWrongFalsely : Prop := tagBackRow.holds Tryz.pinned (OpenSpec.ofChange tagBackWrong)

/-- 'verdigrislaw15.TagCuts': WHATEVER THE INPUT: true; the input reads as it did. -/
def tagCutsSpec : ChangeSpec := { name := "tagCuts", fn := fun _ => fun
  | [d1, d2] => { results := [.lit (.bool true)], args := [d1, d2] }
  | _ => none }
def tagCutsRow : OpenClaim := { program := "ytaacgmcgmljjeaagreat", sum := "16da04eba1306c8e4b028651ab1dd25fd863bbd0d43b3a8021a697c9a34ca5f9", func := "verdigris/verdigrislaw15.TagCuts", spec := "tagCuts", unfollowed := true, recurses := true, apart := false }
def TagCutsSaid : Prop := tagCutsRow.holds Tryz.pinned (OpenSpec.ofChange tagCutsSpec)

/-- ITS FALSE NEIGHBOUR: 'it returns false'. Refute it at one input. -/
def tagCutsWrong : ChangeSpec := { name := "tagCuts", fn := fun _ => fun
  | [d1, d2] => { results := [.lit (.bool false)], args := [d1, d2] }
  | _ => none }
def TagCutsWrongFalsely : Prop := tagCutsRow.holds Tryz.pinned (OpenSpec.ofChange tagCutsWrong)

/-- 'verdigrislaw15.TagReads': WHATEVER THE INPUT: true; the input reads as it did. -/
def tagReadsSpec : ChangeSpec := { name := "tagReads", fn := fun _ => fun
  | [d1, d2, d3, d4, d5] => { results := [.lit (.bool true)], args := [d1, d2, d3, d4, d5] }
  | _ => none }
def tagReadsRow : OpenClaim := { program := "ytaacgmcgmljjeaagreat", sum := "16da04eba1306c8e4b028651ab1dd25fd863bbd0d43b3a8021a697c9a34ca5f9", func := "verdigris/verdigrislaw15.TagReads", spec := "tagReads", unfollowed := true, recurses := true, apart := false }
def TagReadsSaid : Prop := tagReadsRow.holds Tryz.pinned (OpenSpec.ofChange tagReadsSpec)

/-- ITS FALSE NEIGHBOUR: 'it returns false'. Refute it at one input. -/
def tagReadsWrong : ChangeSpec := { name := "tagReads", fn := fun _ => fun
  | [d1, d2, d3, d4, d5] => { results := [.lit (.bool false)], args := [d1, d2, d3, d4, d5] }
  | _ => none }
def TagReadsWrongFalsely : Prop := tagReadsRow.holds Tryz.pinned (OpenSpec.ofChange tagReadsWrong)

/-- 'verdigrislaw15.TagParts': WHATEVER THE INPUT: true; the input reads as it did. -/
def tagPartsSpec : ChangeSpec := { name := "tagParts", fn := fun _ => fun
  | [d1, d2] => { results := [.lit (.bool true)], args := [d1, d2] }
  | _ => none }
def tagPartsRow : OpenClaim := { program := "ytaacgmcgmljjeaagreat", sum := "16da04eba1306c8e4b028651ab1dd25fd863bbd0d43b3a8021a697c9a34ca5f9", func := "verdigris/verdigrislaw15.TagParts", spec := "tagParts", unfollowed := true, recurses := true, apart := false }
def TagPartsSaid : Prop := tagPartsRow.holds Tryz.pinned (OpenSpec.ofChange tagPartsSpec)

/-- ITS FALSE NEIGHBOUR: 'it returns false'. Refute it at one input. -/
def tagPartsWrong : ChangeSpec := { name := "tagParts", fn := fun _ => fun
  | [d1, d2] => { results := [.lit (.bool false)], args := [d1, d2] }
  | _ => none }
def TagPartsWrongFalsely : Prop := tagPartsRow.holds Tryz.pinned (OpenSpec.ofChange tagPartsWrong)

/-- 'verdigrislaw15.TagKnown': WHATEVER THE INPUT: true; the input reads as it did. -/
def tagKnownSpec : ChangeSpec := { name := "tagKnown", fn := fun _ => fun
  | [] => { results := [.lit (.bool true)], args := [] }
  | _ => none }
def tagKnownRow : OpenClaim := { program := "ytaacgmcgmljjeaagreat", sum := "16da04eba1306c8e4b028651ab1dd25fd863bbd0d43b3a8021a697c9a34ca5f9", func := "verdigris/verdigrislaw15.TagKnown", spec := "tagKnown", inPlace := ["internal/abi.NoEscape", "internal/bytealg.MakeNoZero"], unfollowed := true, recurses := true, apart := false }
def TagKnownSaid : Prop := tagKnownRow.holds Tryz.pinned (OpenSpec.ofChange tagKnownSpec)

/-- ITS FALSE NEIGHBOUR: 'it returns false'. Refute it at one input. -/
def tagKnownWrong : ChangeSpec := { name := "tagKnown", fn := fun _ => fun
  | [] => { results := [.lit (.bool false)], args := [] }
  | _ => none }
def TagKnownWrongFalsely : Prop := tagKnownRow.holds Tryz.pinned (OpenSpec.ofChange tagKnownWrong)

/-- 'verdigrislaw15.TagChecks': WHATEVER THE INPUT: true; the input reads as it did. -/
def tagChecksSpec : ChangeSpec := { name := "tagChecks", fn := fun _ => fun
  | [d1, d2] => { results := [.lit (.bool true)], args := [d1, d2] }
  | _ => none }
def tagChecksRow : OpenClaim := { program := "ytaacgmcgmljjeaagreat", sum := "16da04eba1306c8e4b028651ab1dd25fd863bbd0d43b3a8021a697c9a34ca5f9", func := "verdigris/verdigrislaw15.TagChecks", spec := "tagChecks", inPlace := ["internal/abi.NoEscape", "internal/bytealg.MakeNoZero"], unfollowed := true, recurses := true, apart := false }
def TagChecksSaid : Prop := tagChecksRow.holds Tryz.pinned (OpenSpec.ofChange tagChecksSpec)

/-- ITS FALSE NEIGHBOUR: 'it returns false'. Refute it at one input. -/
def tagChecksWrong : ChangeSpec := { name := "tagChecks", fn := fun _ => fun
  | [d1, d2] => { results := [.lit (.bool false)], args := [d1, d2] }
  | _ => none }
def TagChecksWrongFalsely : Prop := tagChecksRow.holds Tryz.pinned (OpenSpec.ofChange tagChecksWrong)

/- THE SECOND FORM. 'bulk': how many values and letters a reading holds, each counted each time it is reached (what is shared counts as often as it is met; a slice's spare places count too). A statement '..UptoSaid' is the law's where the arguments, and the package variables that the reading takes, are together of bulk at most 1048576: NARROWER than '..Said'. Prove '..Said' where nothing that the law and all that it calls make is longer than what came in: it says more and counts as full. Else prove '..UptoSaid'. A law counts once. -/
mutual
def uptoBulk {H : Type} : DataW H → Nat
  | .lit (.string bytes) => bytes.length + 1
  | .lit _ => 1
  | .nil => 1
  | .ptr d => uptoBulk d + 1
  | .slice elems spare => uptoBulkAll elems + uptoBulkAll spare + 1
  | .agg parts => uptoBulkAll parts + 1
  | .iface _ d => uptoBulk d + 1
  | .map entries => uptoBulkEntries entries + 1
  | .held _ => 1
def uptoBulkAll {H : Type} : List (DataW H) → Nat
  | [] => 0
  | d :: r => uptoBulk d + uptoBulkAll r
def uptoBulkEntries {H : Type} : List (Lit × DataW H) → Nat
  | [] => 0
  | x :: r => uptoBulkEntry x + uptoBulkEntries r
def uptoBulkEntry {H : Type} : Lit × DataW H → Nat
  | (.string bytes, d) => bytes.length + uptoBulk d + 1
  | (_, d) => uptoBulk d + 1
 end
def uptoSmall : (H : Type) → List (DataW H) → Bool := fun _ ds => decide (uptoBulkAll ds ≤ 1048576)
def OpenSpec.upto (s : _root_.Go.ChangeSpec) : _root_.Go.OpenSpec := { _root_.Go.OpenSpec.ofChange s with cond := some uptoSmall }

/-- 'verdigrislaw15.TagParses', WHERE WHAT IT READS IS OF BULK AT MOST 1048576: true; the input reads as it did. -/
def tagParsesUptoRow : OpenClaim := { program := "ytaacgmcgmljjeaagreat", sum := "16da04eba1306c8e4b028651ab1dd25fd863bbd0d43b3a8021a697c9a34ca5f9", func := "verdigris/verdigrislaw15.TagParses", spec := "tagParses", unfollowed := true, recurses := true, apart := false, narrowed := true }
def TagParsesUptoSaid : Prop := tagParsesUptoRow.holds Tryz.pinned (OpenSpec.upto tagParsesSpec)

/-- 'verdigrislaw15.TagBack', WHERE WHAT IT READS IS OF BULK AT MOST 1048576: true; the input reads as it did. -/
def tagBackUptoRow : OpenClaim := { program := "ytaacgmcgmljjeaagreat", sum := "16da04eba1306c8e4b028651ab1dd25fd863bbd0d43b3a8021a697c9a34ca5f9", func := "verdigris/verdigrislaw15.TagBack", spec := "tagBack", unfollowed := true, recurses := true, apart := false, narrowed := true }
def TagBackUptoSaid : Prop := tagBackUptoRow.holds Tryz.pinned (OpenSpec.upto tagBackSpec)

/-- 'verdigrislaw15.TagCuts', WHERE WHAT IT READS IS OF BULK AT MOST 1048576: true; the input reads as it did. -/
def tagCutsUptoRow : OpenClaim := { program := "ytaacgmcgmljjeaagreat", sum := "16da04eba1306c8e4b028651ab1dd25fd863bbd0d43b3a8021a697c9a34ca5f9", func := "verdigris/verdigrislaw15.TagCuts", spec := "tagCuts", unfollowed := true, recurses := true, apart := false, narrowed := true }
def TagCutsUptoSaid : Prop := tagCutsUptoRow.holds Tryz.pinned (OpenSpec.upto tagCutsSpec)

/-- 'verdigrislaw15.TagReads', WHERE WHAT IT READS IS OF BULK AT MOST 1048576: true; the input reads as it did. -/
def tagReadsUptoRow : OpenClaim := { program := "ytaacgmcgmljjeaagreat", sum := "16da04eba1306c8e4b028651ab1dd25fd863bbd0d43b3a8021a697c9a34ca5f9", func := "verdigris/verdigrislaw15.TagReads", spec := "tagReads", unfollowed := true, recurses := true, apart := false, narrowed := true }
def TagReadsUptoSaid : Prop := tagReadsUptoRow.holds Tryz.pinned (OpenSpec.upto tagReadsSpec)

/-- 'verdigrislaw15.TagParts', WHERE WHAT IT READS IS OF BULK AT MOST 1048576: true; the input reads as it did. -/
def tagPartsUptoRow : OpenClaim := { program := "ytaacgmcgmljjeaagreat", sum := "16da04eba1306c8e4b028651ab1dd25fd863bbd0d43b3a8021a697c9a34ca5f9", func := "verdigris/verdigrislaw15.TagParts", spec := "tagParts", unfollowed := true, recurses := true, apart := false, narrowed := true }
def TagPartsUptoSaid : Prop := tagPartsUptoRow.holds Tryz.pinned (OpenSpec.upto tagPartsSpec)

/-- 'verdigrislaw15.TagKnown', WHERE WHAT IT READS IS OF BULK AT MOST 1048576: true; the input reads as it did. -/
def tagKnownUptoRow : OpenClaim := { program := "ytaacgmcgmljjeaagreat", sum := "16da04eba1306c8e4b028651ab1dd25fd863bbd0d43b3a8021a697c9a34ca5f9", func := "verdigris/verdigrislaw15.TagKnown", spec := "tagKnown", inPlace := ["internal/abi.NoEscape", "internal/bytealg.MakeNoZero"], unfollowed := true, recurses := true, apart := false, narrowed := true }
def TagKnownUptoSaid : Prop := tagKnownUptoRow.holds Tryz.pinned (OpenSpec.upto tagKnownSpec)

/-- 'verdigrislaw15.TagChecks', WHERE WHAT IT READS IS OF BULK AT MOST 1048576: true; the input reads as it did. -/
def tagChecksUptoRow : OpenClaim := { program := "ytaacgmcgmljjeaagreat", sum := "16da04eba1306c8e4b028651ab1dd25fd863bbd0d43b3a8021a697c9a34ca5f9", func := "verdigris/verdigrislaw15.TagChecks", spec := "tagChecks", inPlace := ["internal/abi.NoEscape", "internal/bytealg.MakeNoZero"], unfollowed := true, recurses := true, apart := false, narrowed := true }
def TagChecksUptoSaid : Prop := tagChecksUptoRow.holds Tryz.pinned (OpenSpec.upto tagChecksSpec)

end Rows
end Go.Proofs.YtaacgmcgmljjeaaGreat
