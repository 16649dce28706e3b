/-
  No cell of these rows narrows 'for every input' (looked for: loops, veiled, ifaces, maps, wideKeys, modest, calm, conditions, laid).
  DERIVED. THE GIVEN ROWS OF THIS SEAT. 4 by the template 'for every input the law returns true; each argument reads behind the call as it read before'; 0 by the template 'total and deterministic' (their statements: YtgiefblcckikeaaTotals.lean).
  GIVEN WITH THE SEED: the statements are not yours to turn. If you find one false, say at which input.
  Laid BY PROGRAM, IN A SANDBOX (cutbox-rows.mjs): the forced cells as the released guide's own fill.sh prints them over the translation 3fb765ba9428a37f… (all of the seat's roots in one cut). By AI agents, Wed Nov 11 2026. No macro, syntax, notation, axiom, sorry.
-/
import Derived.Test.YtgiefblcckikeaaChecked
import GoSem.Claim
import GoSem.ClaimJoined
import GoSem.ClaimMapViews
import Derived.JoinedTies
import Derived.KernelRfl
namespace Go.Proofs.Ytgiefblcckikeaa
/- THE CELL 'sum', in the pinned program and in every row, IS THE sha256 OF THE DUMP (.gsa) THAT YtgiefblcckikeaaProg.lean LOADS. Nothing in Lean hashes anything: it is a label: what it is worth is what the hold of that sum in a sandbox is worth. -/
noncomputable def Try.pinned : Pinned := { name := "ytgiefblcckikeaa", sum := "3fb765ba9428a37f68930e28e104d397dbf466b156fabfc299eedb428f13b8f8", checked := Try.checked }
namespace Rows
def none {H : Type} : Left H := { results := [], args := [] }

/-- 'trivetlaw04.RecordApart': WHATEVER THE INPUT: true; the input reads as it did. -/
def recordApartSpec : ChangeSpec := { name := "recordApart", fn := fun _ => fun
  | [d1, d2] => { results := [.lit (.bool true)], args := [d1, d2] }
  | _ => none }
def recordApartRow : OpenClaim := { program := "ytgiefblcckikeaa", sum := "3fb765ba9428a37f68930e28e104d397dbf466b156fabfc299eedb428f13b8f8", func := "trivet/trivetlaw04.RecordApart", spec := "recordApart", unfollowed := true, recurses := true, apart := false }
def RecordApartSaid : Prop := recordApartRow.holds Try.pinned (OpenSpec.ofChange recordApartSpec)

/-- ITS FALSE NEIGHBOUR: 'it returns false'. Refute it at one input. -/
def recordApartWrong : ChangeSpec := { name := "recordApart", fn := fun _ => fun
  | [d1, d2] => { results := [.lit (.bool false)], args := [d1, d2] }
  | _ => none }
def RecordApartWrongFalsely : Prop := recordApartRow.holds Try.pinned (OpenSpec.ofChange recordApartWrong)

/-- 'trivetlaw04.RecordFull': WHATEVER THE INPUT: true; the input reads as it did. -/
def recordFullSpec : ChangeSpec := { name := "recordFull", fn := fun _ => fun
  | [d1, d2] => { results := [.lit (.bool true)], args := [d1, d2] }
  | _ => none }
def recordFullRow : OpenClaim := { program := "ytgiefblcckikeaa", sum := "3fb765ba9428a37f68930e28e104d397dbf466b156fabfc299eedb428f13b8f8", func := "trivet/trivetlaw04.RecordFull", spec := "recordFull", unfollowed := true, recurses := true, apart := false }
def RecordFullSaid : Prop := recordFullRow.holds Try.pinned (OpenSpec.ofChange recordFullSpec)

/-- ITS FALSE NEIGHBOUR: 'it returns false'. Refute it at one input. -/
def recordFullWrong : ChangeSpec := { name := "recordFull", fn := fun _ => fun
  | [d1, d2] => { results := [.lit (.bool false)], args := [d1, d2] }
  | _ => none }
def RecordFullWrongFalsely : Prop := recordFullRow.holds Try.pinned (OpenSpec.ofChange recordFullWrong)

/-- 'trivetlaw04.RecordPuts': WHATEVER THE INPUT: true; the input reads as it did. -/
def recordPutsSpec : ChangeSpec := { name := "recordPuts", fn := fun _ => fun
  | [d1, d2, d3] => { results := [.lit (.bool true)], args := [d1, d2, d3] }
  | _ => none }
def recordPutsRow : OpenClaim := { program := "ytgiefblcckikeaa", sum := "3fb765ba9428a37f68930e28e104d397dbf466b156fabfc299eedb428f13b8f8", func := "trivet/trivetlaw04.RecordPuts", spec := "recordPuts", unfollowed := true, recurses := true, apart := false }
def RecordPutsSaid : Prop := recordPutsRow.holds Try.pinned (OpenSpec.ofChange recordPutsSpec)

/-- ITS FALSE NEIGHBOUR: 'it returns false'. Refute it at one input. -/
def recordPutsWrong : ChangeSpec := { name := "recordPuts", fn := fun _ => fun
  | [d1, d2, d3] => { results := [.lit (.bool false)], args := [d1, d2, d3] }
  | _ => none }
def RecordPutsWrongFalsely : Prop := recordPutsRow.holds Try.pinned (OpenSpec.ofChange recordPutsWrong)

/-- 'trivetlaw04.RecordSames': WHATEVER THE INPUT: true; the input reads as it did. -/
def recordSamesSpec : ChangeSpec := { name := "recordSames", fn := fun _ => fun
  | [d1, d2, d3, d4] => { results := [.lit (.bool true)], args := [d1, d2, d3, d4] }
  | _ => none }
def recordSamesRow : OpenClaim := { program := "ytgiefblcckikeaa", sum := "3fb765ba9428a37f68930e28e104d397dbf466b156fabfc299eedb428f13b8f8", func := "trivet/trivetlaw04.RecordSames", spec := "recordSames", unfollowed := true, recurses := true, apart := false }
def RecordSamesSaid : Prop := recordSamesRow.holds Try.pinned (OpenSpec.ofChange recordSamesSpec)

/-- ITS FALSE NEIGHBOUR: 'it returns false'. Refute it at one input. -/
def recordSamesWrong : ChangeSpec := { name := "recordSames", fn := fun _ => fun
  | [d1, d2, d3, d4] => { results := [.lit (.bool false)], args := [d1, d2, d3, d4] }
  | _ => none }
def RecordSamesWrongFalsely : Prop := recordSamesRow.holds Try.pinned (OpenSpec.ofChange recordSamesWrong)

/- THE SECOND FORM. 'bulk': how many values and letters a reading holds, each counted each time it is reached (what is shared counts as often as it is met; a slice's spare places count too). A statement '..UptoSaid' is the law's where the arguments, and the package variables that the reading takes, are together of bulk at most 1048576: NARROWER than '..Said'. Prove '..Said' where nothing that the law and all that it calls make is longer than what came in: it says more and counts as full. Else prove '..UptoSaid'. A law counts once. -/
mutual
def uptoBulk {H : Type} : DataW H → Nat
  | .lit (.string bytes) => bytes.length + 1
  | .lit _ => 1
  | .nil => 1
  | .ptr d => uptoBulk d + 1
  | .slice elems spare => uptoBulkAll elems + uptoBulkAll spare + 1
  | .agg parts => uptoBulkAll parts + 1
  | .iface _ d => uptoBulk d + 1
  | .map entries => uptoBulkEntries entries + 1
  | .held _ => 1
def uptoBulkAll {H : Type} : List (DataW H) → Nat
  | [] => 0
  | d :: r => uptoBulk d + uptoBulkAll r
def uptoBulkEntries {H : Type} : List (Lit × DataW H) → Nat
  | [] => 0
  | x :: r => uptoBulkEntry x + uptoBulkEntries r
def uptoBulkEntry {H : Type} : Lit × DataW H → Nat
  | (.string bytes, d) => bytes.length + uptoBulk d + 1
  | (_, d) => uptoBulk d + 1
 end
def uptoSmall : (H : Type) → List (DataW H) → Bool := fun _ ds => decide (uptoBulkAll ds ≤ 1048576)
def OpenSpec.upto (s : _root_.Go.ChangeSpec) : _root_.Go.OpenSpec := { _root_.Go.OpenSpec.ofChange s with cond := some uptoSmall }

/-- 'trivetlaw04.RecordApart', WHERE WHAT IT READS IS OF BULK AT MOST 1048576: true; the input reads as it did. -/
def recordApartUptoRow : OpenClaim := { program := "ytgiefblcckikeaa", sum := "3fb765ba9428a37f68930e28e104d397dbf466b156fabfc299eedb428f13b8f8", func := "trivet/trivetlaw04.RecordApart", spec := "recordApart", unfollowed := true, recurses := true, apart := false, narrowed := true }
def RecordApartUptoSaid : Prop := recordApartUptoRow.holds Try.pinned (OpenSpec.upto recordApartSpec)

/-- 'trivetlaw04.RecordFull', WHERE WHAT IT READS IS OF BULK AT MOST 1048576: true; the input reads as it did. -/
def recordFullUptoRow : OpenClaim := { program := "ytgiefblcckikeaa", sum := "3fb765ba9428a37f68930e28e104d397dbf466b156fabfc299eedb428f13b8f8", func := "trivet/trivetlaw04.RecordFull", spec := "recordFull", unfollowed := true, recurses := true, apart := false, narrowed := true }
def RecordFullUptoSaid : Prop := recordFullUptoRow.holds Try.pinned (OpenSpec.upto recordFullSpec)

/-- 'trivetlaw04.RecordPuts', WHERE WHAT IT READS IS OF BULK AT MOST 1048576: true; the input reads as it did. -/
def recordPutsUptoRow : OpenClaim := { program := "ytgiefblcckikeaa", sum := "3fb765ba9428a37f68930e28e104d397dbf466b156fabfc299eedb428f13b8f8", func := "trivet/trivetlaw04.RecordPuts", spec := "recordPuts", unfollowed := true, recurses := true, apart := false, narrowed := true }
def RecordPutsUptoSaid : Prop := recordPutsUptoRow.holds Try.pinned (OpenSpec.upto recordPutsSpec)

/-- 'trivetlaw04.RecordSames', WHERE WHAT IT READS IS OF BULK AT MOST 1048576: true; the input reads as it did. -/
def recordSamesUptoRow : OpenClaim := { program := "ytgiefblcckikeaa", sum := "3fb765ba9428a37f68930e28e104d397dbf466b156fabfc299eedb428f13b8f8", func := "trivet/trivetlaw04.RecordSames", spec := "recordSames", unfollowed := true, recurses := true, apart := false, narrowed := true }
def RecordSamesUptoSaid : Prop := recordSamesUptoRow.holds Try.pinned (OpenSpec.upto recordSamesSpec)

end Rows
end Go.Proofs.Ytgiefblcckikeaa
