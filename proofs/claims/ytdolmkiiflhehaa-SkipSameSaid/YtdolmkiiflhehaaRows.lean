/-
  No cell of these rows narrows 'for every input' (looked for: loops, veiled, ifaces, maps, wideKeys, modest, calm, conditions, laid).
  DERIVED. THE GIVEN ROWS OF THIS SEAT. 6 by the template 'for every input the law returns true; each argument reads behind the call as it read before'; 0 by the template 'total and deterministic' (their statements: YtdolmkiiflhehaaTotals.lean).
  GIVEN WITH THE SEED: the statements are not yours to turn. If you find one false, say at which input.
  Laid BY PROGRAM, IN A SANDBOX (cutbox-rows.mjs): the forced cells as the released guide's own fill.sh prints them over the translation cec1aafae95a7585… (all of the seat's roots in one cut). By AI agents, Wed Nov 11 2026. No macro, syntax, notation, axiom, sorry.
-/
import Derived.Test.YtdolmkiiflhehaaChecked
import GoSem.Claim
import GoSem.ClaimJoined
import GoSem.ClaimMapViews
import Derived.JoinedTies
import Derived.KernelRfl
namespace Go.Proofs.Ytdolmkiiflhehaa
/- THE CELL 'sum', in the pinned program and in every row, IS THE sha256 OF THE DUMP (.gsa) THAT YtdolmkiiflhehaaProg.lean LOADS. Nothing in Lean hashes anything: it is a label: what it is worth is what the hold of that sum in a sandbox is worth. -/
noncomputable def Try.pinned : Pinned := { name := "ytdolmkiiflhehaa", sum := "cec1aafae95a7585275b17618c77950ca9920490641d3c6eb5f3093b010a8b2b", checked := Try.checked }
namespace Rows
def none {H : Type} : Left H := { results := [], args := [] }

/-- 'trivetlaw12.SkipMap': WHATEVER THE INPUT: true; the input reads as it did. -/
def skipMapSpec : ChangeSpec := { name := "skipMap", fn := fun _ => fun
  | [d1, d2] => { results := [.lit (.bool true)], args := [d1, d2] }
  | _ => none }
def skipMapRow : OpenClaim := { program := "ytdolmkiiflhehaa", sum := "cec1aafae95a7585275b17618c77950ca9920490641d3c6eb5f3093b010a8b2b", func := "trivet/trivetlaw12.SkipMap", spec := "skipMap", unfollowed := true, recurses := true, plainKeys := false, apart := false }
def SkipMapSaid : Prop := skipMapRow.holds Try.pinned (OpenSpec.ofChange skipMapSpec)

/-- ITS FALSE NEIGHBOUR: 'it returns false'. Refute it at one input. -/
def skipMapWrong : ChangeSpec := { name := "skipMap", fn := fun _ => fun
  | [d1, d2] => { results := [.lit (.bool false)], args := [d1, d2] }
  | _ => none }
def SkipMapWrongFalsely : Prop := skipMapRow.holds Try.pinned (OpenSpec.ofChange skipMapWrong)

/-- 'trivetlaw12.SkipLevels': WHATEVER THE INPUT: true; the input reads as it did. -/
def skipLevelsSpec : ChangeSpec := { name := "skipLevels", fn := fun _ => fun
  | [d1, d2, d3] => { results := [.lit (.bool true)], args := [d1, d2, d3] }
  | _ => none }
def skipLevelsRow : OpenClaim := { program := "ytdolmkiiflhehaa", sum := "cec1aafae95a7585275b17618c77950ca9920490641d3c6eb5f3093b010a8b2b", func := "trivet/trivetlaw12.SkipLevels", spec := "skipLevels", unfollowed := true, recurses := true, plainKeys := false, apart := false }
def SkipLevelsSaid : Prop := skipLevelsRow.holds Try.pinned (OpenSpec.ofChange skipLevelsSpec)

/-- ITS FALSE NEIGHBOUR: 'it returns false'. Refute it at one input. -/
def skipLevelsWrong : ChangeSpec := { name := "skipLevels", fn := fun _ => fun
  | [d1, d2, d3] => { results := [.lit (.bool false)], args := [d1, d2, d3] }
  | _ => none }
def SkipLevelsWrongFalsely : Prop := skipLevelsRow.holds Try.pinned (OpenSpec.ofChange skipLevelsWrong)

/-- 'trivetlaw12.SkipNone': WHATEVER THE INPUT: true; the input reads as it did. -/
def skipNoneSpec : ChangeSpec := { name := "skipNone", fn := fun _ => fun
  | [d] => { results := [.lit (.bool true)], args := [d] }
  | _ => none }
def skipNoneRow : OpenClaim := { program := "ytdolmkiiflhehaa", sum := "cec1aafae95a7585275b17618c77950ca9920490641d3c6eb5f3093b010a8b2b", func := "trivet/trivetlaw12.SkipNone", spec := "skipNone", unfollowed := true, recurses := true, plainKeys := false, apart := false }
def SkipNoneSaid : Prop := skipNoneRow.holds Try.pinned (OpenSpec.ofChange skipNoneSpec)

/-- ITS FALSE NEIGHBOUR: 'it returns false'. Refute it at one input. -/
def skipNoneWrong : ChangeSpec := { name := "skipNone", fn := fun _ => fun
  | [d] => { results := [.lit (.bool false)], args := [d] }
  | _ => none }
def SkipNoneWrongFalsely : Prop := skipNoneRow.holds Try.pinned (OpenSpec.ofChange skipNoneWrong)

/-- 'trivetlaw12.SkipReads': WHATEVER THE INPUT: true; the input reads as it did. -/
def skipReadsSpec : ChangeSpec := { name := "skipReads", fn := fun _ => fun
  | [d1, d2] => { results := [.lit (.bool true)], args := [d1, d2] }
  | _ => none }
def skipReadsRow : OpenClaim := { program := "ytdolmkiiflhehaa", sum := "cec1aafae95a7585275b17618c77950ca9920490641d3c6eb5f3093b010a8b2b", func := "trivet/trivetlaw12.SkipReads", spec := "skipReads", unfollowed := true, recurses := true, plainKeys := false, apart := false }
def SkipReadsSaid : Prop := skipReadsRow.holds Try.pinned (OpenSpec.ofChange skipReadsSpec)

/-- ITS FALSE NEIGHBOUR: 'it returns false'. Refute it at one input. -/
def skipReadsWrong : ChangeSpec := { name := "skipReads", fn := fun _ => fun
  | [d1, d2] => { results := [.lit (.bool false)], args := [d1, d2] }
  | _ => none }
def SkipReadsWrongFalsely : Prop := skipReadsRow.holds Try.pinned (OpenSpec.ofChange skipReadsWrong)

/-- 'trivetlaw12.SkipSame': WHATEVER THE INPUT: true; the input reads as it did. -/
def skipSameSpec : ChangeSpec := { name := "skipSame", fn := fun _ => fun
  | [d1, d2, d3, d4] => { results := [.lit (.bool true)], args := [d1, d2, d3, d4] }
  | _ => none }
def skipSameRow : OpenClaim := { program := "ytdolmkiiflhehaa", sum := "cec1aafae95a7585275b17618c77950ca9920490641d3c6eb5f3093b010a8b2b", func := "trivet/trivetlaw12.SkipSame", spec := "skipSame", unfollowed := true, recurses := true, plainKeys := false, apart := false }
def SkipSameSaid : Prop := skipSameRow.holds Try.pinned (OpenSpec.ofChange skipSameSpec)

/-- ITS FALSE NEIGHBOUR: 'it returns false'. Refute it at one input. -/
def skipSameWrong : ChangeSpec := { name := "skipSame", fn := fun _ => fun
  | [d1, d2, d3, d4] => { results := [.lit (.bool false)], args := [d1, d2, d3, d4] }
  | _ => none }
def SkipSameWrongFalsely : Prop := skipSameRow.holds Try.pinned (OpenSpec.ofChange skipSameWrong)

/-- 'trivetlaw12.SkipDoes': WHATEVER THE INPUT: true; the input reads as it did. -/
def skipDoesSpec : ChangeSpec := { name := "skipDoes", fn := fun _ => fun
  | [d1, d2] => { results := [.lit (.bool true)], args := [d1, d2] }
  | _ => none }
def skipDoesRow : OpenClaim := { program := "ytdolmkiiflhehaa", sum := "cec1aafae95a7585275b17618c77950ca9920490641d3c6eb5f3093b010a8b2b", func := "trivet/trivetlaw12.SkipDoes", spec := "skipDoes", unfollowed := true, recurses := true, plainKeys := false, apart := false }
def SkipDoesSaid : Prop := skipDoesRow.holds Try.pinned (OpenSpec.ofChange skipDoesSpec)

/-- ITS FALSE NEIGHBOUR: 'it returns false'. Refute it at one input. -/
def skipDoesWrong : ChangeSpec := { name := "skipDoes", fn := fun _ => fun
  | [d1, d2] => { results := [.lit (.bool false)], args := [d1, d2] }
  | _ => none }
def SkipDoesWrongFalsely : Prop := skipDoesRow.holds Try.pinned (OpenSpec.ofChange skipDoesWrong)

/- THE SECOND FORM. 'bulk': how many values and letters a reading holds, each counted each time it is reached (what is shared counts as often as it is met; a slice's spare places count too). A statement '..UptoSaid' is the law's where the arguments, and the package variables that the reading takes, are together of bulk at most 1048576: NARROWER than '..Said'. Prove '..Said' where nothing that the law and all that it calls make is longer than what came in: it says more and counts as full. Else prove '..UptoSaid'. A law counts once. -/
mutual
def uptoBulk {H : Type} : DataW H → Nat
  | .lit (.string bytes) => bytes.length + 1
  | .lit _ => 1
  | .nil => 1
  | .ptr d => uptoBulk d + 1
  | .slice elems spare => uptoBulkAll elems + uptoBulkAll spare + 1
  | .agg parts => uptoBulkAll parts + 1
  | .iface _ d => uptoBulk d + 1
  | .map entries => uptoBulkEntries entries + 1
  | .held _ => 1
def uptoBulkAll {H : Type} : List (DataW H) → Nat
  | [] => 0
  | d :: r => uptoBulk d + uptoBulkAll r
def uptoBulkEntries {H : Type} : List (Lit × DataW H) → Nat
  | [] => 0
  | x :: r => uptoBulkEntry x + uptoBulkEntries r
def uptoBulkEntry {H : Type} : Lit × DataW H → Nat
  | (.string bytes, d) => bytes.length + uptoBulk d + 1
  | (_, d) => uptoBulk d + 1
 end
def uptoSmall : (H : Type) → List (DataW H) → Bool := fun _ ds => decide (uptoBulkAll ds ≤ 1048576)
def OpenSpec.upto (s : _root_.Go.ChangeSpec) : _root_.Go.OpenSpec := { _root_.Go.OpenSpec.ofChange s with cond := some uptoSmall }

/-- 'trivetlaw12.SkipMap', WHERE WHAT IT READS IS OF BULK AT MOST 1048576: true; the input reads as it did. -/
def skipMapUptoRow : OpenClaim := { program := "ytdolmkiiflhehaa", sum := "cec1aafae95a7585275b17618c77950ca9920490641d3c6eb5f3093b010a8b2b", func := "trivet/trivetlaw12.SkipMap", spec := "skipMap", unfollowed := true, recurses := true, plainKeys := false, apart := false, narrowed := true }
def SkipMapUptoSaid : Prop := skipMapUptoRow.holds Try.pinned (OpenSpec.upto skipMapSpec)

/-- 'trivetlaw12.SkipLevels', WHERE WHAT IT READS IS OF BULK AT MOST 1048576: true; the input reads as it did. -/
def skipLevelsUptoRow : OpenClaim := { program := "ytdolmkiiflhehaa", sum := "cec1aafae95a7585275b17618c77950ca9920490641d3c6eb5f3093b010a8b2b", func := "trivet/trivetlaw12.SkipLevels", spec := "skipLevels", unfollowed := true, recurses := true, plainKeys := false, apart := false, narrowed := true }
def SkipLevelsUptoSaid : Prop := skipLevelsUptoRow.holds Try.pinned (OpenSpec.upto skipLevelsSpec)

/-- 'trivetlaw12.SkipNone', WHERE WHAT IT READS IS OF BULK AT MOST 1048576: true; the input reads as it did. -/
def skipNoneUptoRow : OpenClaim := { program := "ytdolmkiiflhehaa", sum := "cec1aafae95a7585275b17618c77950ca9920490641d3c6eb5f3093b010a8b2b", func := "trivet/trivetlaw12.SkipNone", spec := "skipNone", unfollowed := true, recurses := true, plainKeys := false, apart := false, narrowed := true }
def SkipNoneUptoSaid : Prop := skipNoneUptoRow.holds Try.pinned (OpenSpec.upto skipNoneSpec)

/-- 'trivetlaw12.SkipReads', WHERE WHAT IT READS IS OF BULK AT MOST 1048576: true; the input reads as it did. -/
def skipReadsUptoRow : OpenClaim := { program := "ytdolmkiiflhehaa", sum := "cec1aafae95a7585275b17618c77950ca9920490641d3c6eb5f3093b010a8b2b", func := "trivet/trivetlaw12.SkipReads", spec := "skipReads", unfollowed := true, recurses := true, plainKeys := false, apart := false, narrowed := true }
def SkipReadsUptoSaid : Prop := skipReadsUptoRow.holds Try.pinned (OpenSpec.upto skipReadsSpec)

/-- 'trivetlaw12.SkipSame', WHERE WHAT IT READS IS OF BULK AT MOST 1048576: true; the input reads as it did. -/
def skipSameUptoRow : OpenClaim := { program := "ytdolmkiiflhehaa", sum := "cec1aafae95a7585275b17618c77950ca9920490641d3c6eb5f3093b010a8b2b", func := "trivet/trivetlaw12.SkipSame", spec := "skipSame", unfollowed := true, recurses := true, plainKeys := false, apart := false, narrowed := true }
def SkipSameUptoSaid : Prop := skipSameUptoRow.holds Try.pinned (OpenSpec.upto skipSameSpec)

/-- 'trivetlaw12.SkipDoes', WHERE WHAT IT READS IS OF BULK AT MOST 1048576: true; the input reads as it did. -/
def skipDoesUptoRow : OpenClaim := { program := "ytdolmkiiflhehaa", sum := "cec1aafae95a7585275b17618c77950ca9920490641d3c6eb5f3093b010a8b2b", func := "trivet/trivetlaw12.SkipDoes", spec := "skipDoes", unfollowed := true, recurses := true, plainKeys := false, apart := false, narrowed := true }
def SkipDoesUptoSaid : Prop := skipDoesUptoRow.holds Try.pinned (OpenSpec.upto skipDoesSpec)

end Rows
end Go.Proofs.Ytdolmkiiflhehaa
