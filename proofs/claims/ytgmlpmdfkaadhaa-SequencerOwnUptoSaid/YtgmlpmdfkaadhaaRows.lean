/-
  No cell of these rows narrows 'for every input' (looked for: loops, veiled, ifaces, maps, wideKeys, modest, calm, conditions, laid).
  DERIVED. THE GIVEN ROWS OF THIS SEAT. 5 by the template 'for every input the law returns true; each argument reads behind the call as it read before'; 0 by the template 'total and deterministic' (their statements: YtgmlpmdfkaadhaaTotals.lean).
  GIVEN WITH THE SEED: the statements are not yours to turn. If you find one false, say at which input.
  Laid BY PROGRAM, IN A SANDBOX (cutbox-rows.mjs): the forced cells as the released guide's own fill.sh prints them over the translation e98736a1b6c9e009… (all of the seat's roots in one cut). By AI agents, Wed Nov 11 2026. No macro, syntax, notation, axiom, sorry.
-/
import Derived.Test.YtgmlpmdfkaadhaaChecked
import GoSem.Claim
import GoSem.ClaimJoined
import GoSem.ClaimMapViews
import Derived.JoinedTies
import Derived.KernelRfl
namespace Go.Proofs.Ytgmlpmdfkaadhaa
/- THE CELL 'sum', in the pinned program and in every row, IS THE sha256 OF THE DUMP (.gsa) THAT YtgmlpmdfkaadhaaProg.lean LOADS. Nothing in Lean hashes anything: it is a label: what it is worth is what the hold of that sum in a sandbox is worth. -/
noncomputable def Try.pinned : Pinned := { name := "ytgmlpmdfkaadhaa", sum := "e98736a1b6c9e009159de1f5ee569173c950ed1b4ad8f5371e2f1951d564fa5f", checked := Try.checked }
namespace Rows
def none {H : Type} : Left H := { results := [], args := [] }

/-- 'trivetlaw21.SequencerOrder': WHATEVER THE INPUT: true; the input reads as it did. -/
def sequencerOrderSpec : ChangeSpec := { name := "sequencerOrder", fn := fun _ => fun
  | [d] => { results := [.lit (.bool true)], args := [d] }
  | _ => none }
def sequencerOrderRow : OpenClaim := { program := "ytgmlpmdfkaadhaa", sum := "e98736a1b6c9e009159de1f5ee569173c950ed1b4ad8f5371e2f1951d564fa5f", func := "trivet/trivetlaw21.SequencerOrder", spec := "sequencerOrder", unfollowed := true, recurses := true, plainKeys := false, apart := false }
def SequencerOrderSaid : Prop := sequencerOrderRow.holds Try.pinned (OpenSpec.ofChange sequencerOrderSpec)

/-- ITS FALSE NEIGHBOUR: 'it returns false'. Refute it at one input. -/
def sequencerOrderWrong : ChangeSpec := { name := "sequencerOrder", fn := fun _ => fun
  | [d] => { results := [.lit (.bool false)], args := [d] }
  | _ => none }
def SequencerOrderWrongFalsely : Prop := sequencerOrderRow.holds Try.pinned (OpenSpec.ofChange sequencerOrderWrong)

/-- 'trivetlaw21.SequencerFull': WHATEVER THE INPUT: true; the input reads as it did. -/
def sequencerFullSpec : ChangeSpec := { name := "sequencerFull", fn := fun _ => fun
  | [d] => { results := [.lit (.bool true)], args := [d] }
  | _ => none }
def sequencerFullRow : OpenClaim := { program := "ytgmlpmdfkaadhaa", sum := "e98736a1b6c9e009159de1f5ee569173c950ed1b4ad8f5371e2f1951d564fa5f", func := "trivet/trivetlaw21.SequencerFull", spec := "sequencerFull", unfollowed := true, recurses := true, plainKeys := false, apart := false }
def SequencerFullSaid : Prop := sequencerFullRow.holds Try.pinned (OpenSpec.ofChange sequencerFullSpec)

/-- ITS FALSE NEIGHBOUR: 'it returns false'. Refute it at one input. -/
def sequencerFullWrong : ChangeSpec := { name := "sequencerFull", fn := fun _ => fun
  | [d] => { results := [.lit (.bool false)], args := [d] }
  | _ => none }
def SequencerFullWrongFalsely : Prop := sequencerFullRow.holds Try.pinned (OpenSpec.ofChange sequencerFullWrong)

/-- 'trivetlaw21.SequencerOwn': WHATEVER THE INPUT: true; the input reads as it did. -/
def sequencerOwnSpec : ChangeSpec := { name := "sequencerOwn", fn := fun _ => fun
  | [d] => { results := [.lit (.bool true)], args := [d] }
  | _ => none }
def sequencerOwnRow : OpenClaim := { program := "ytgmlpmdfkaadhaa", sum := "e98736a1b6c9e009159de1f5ee569173c950ed1b4ad8f5371e2f1951d564fa5f", func := "trivet/trivetlaw21.SequencerOwn", spec := "sequencerOwn", unfollowed := true, recurses := true, plainKeys := false, apart := false }
def SequencerOwnSaid : Prop := sequencerOwnRow.holds Try.pinned (OpenSpec.ofChange sequencerOwnSpec)

/-- ITS FALSE NEIGHBOUR: 'it returns false'. Refute it at one input. -/
def sequencerOwnWrong : ChangeSpec := { name := "sequencerOwn", fn := fun _ => fun
  | [d] => { results := [.lit (.bool false)], args := [d] }
  | _ => none }
def SequencerOwnWrongFalsely : Prop := sequencerOwnRow.holds Try.pinned (OpenSpec.ofChange sequencerOwnWrong)

/-- 'trivetlaw21.SequencerDoes': WHATEVER THE INPUT: true; the input reads as it did. -/
def sequencerDoesSpec : ChangeSpec := { name := "sequencerDoes", fn := fun _ => fun
  | [d1, d2] => { results := [.lit (.bool true)], args := [d1, d2] }
  | _ => none }
def sequencerDoesRow : OpenClaim := { program := "ytgmlpmdfkaadhaa", sum := "e98736a1b6c9e009159de1f5ee569173c950ed1b4ad8f5371e2f1951d564fa5f", func := "trivet/trivetlaw21.SequencerDoes", spec := "sequencerDoes", inPlace := ["maps.clone"], unfollowed := true, recurses := true, plainKeys := false, apart := false }
def SequencerDoesSaid : Prop := sequencerDoesRow.holds Try.pinned (OpenSpec.ofChange sequencerDoesSpec)

/-- ITS FALSE NEIGHBOUR: 'it returns false'. Refute it at one input. -/
def sequencerDoesWrong : ChangeSpec := { name := "sequencerDoes", fn := fun _ => fun
  | [d1, d2] => { results := [.lit (.bool false)], args := [d1, d2] }
  | _ => none }
def SequencerDoesWrongFalsely : Prop := sequencerDoesRow.holds Try.pinned (OpenSpec.ofChange sequencerDoesWrong)

/-- 'trivetlaw21.SequencerNone': WHATEVER THE INPUT: true; the input reads as it did. -/
def sequencerNoneSpec : ChangeSpec := { name := "sequencerNone", fn := fun _ => fun
  | [d] => { results := [.lit (.bool true)], args := [d] }
  | _ => none }
def sequencerNoneRow : OpenClaim := { program := "ytgmlpmdfkaadhaa", sum := "e98736a1b6c9e009159de1f5ee569173c950ed1b4ad8f5371e2f1951d564fa5f", func := "trivet/trivetlaw21.SequencerNone", spec := "sequencerNone", inPlace := ["maps.clone"], unfollowed := true, recurses := true, plainKeys := false, apart := false }
def SequencerNoneSaid : Prop := sequencerNoneRow.holds Try.pinned (OpenSpec.ofChange sequencerNoneSpec)

/-- ITS FALSE NEIGHBOUR: 'it returns false'. Refute it at one input. -/
def sequencerNoneWrong : ChangeSpec := { name := "sequencerNone", fn := fun _ => fun
  | [d] => { results := [.lit (.bool false)], args := [d] }
  | _ => none }
def SequencerNoneWrongFalsely : Prop := sequencerNoneRow.holds Try.pinned (OpenSpec.ofChange sequencerNoneWrong)

/- THE SECOND FORM. 'bulk': how many values and letters a reading holds, each counted each time it is reached (what is shared counts as often as it is met; a slice's spare places count too). A statement '..UptoSaid' is the law's where the arguments, and the package variables that the reading takes, are together of bulk at most 1048576: NARROWER than '..Said'. Prove '..Said' where nothing that the law and all that it calls make is longer than what came in: it says more and counts as full. Else prove '..UptoSaid'. A law counts once. -/
mutual
def uptoBulk {H : Type} : DataW H → Nat
  | .lit (.string bytes) => bytes.length + 1
  | .lit _ => 1
  | .nil => 1
  | .ptr d => uptoBulk d + 1
  | .slice elems spare => uptoBulkAll elems + uptoBulkAll spare + 1
  | .agg parts => uptoBulkAll parts + 1
  | .iface _ d => uptoBulk d + 1
  | .map entries => uptoBulkEntries entries + 1
  | .held _ => 1
def uptoBulkAll {H : Type} : List (DataW H) → Nat
  | [] => 0
  | d :: r => uptoBulk d + uptoBulkAll r
def uptoBulkEntries {H : Type} : List (Lit × DataW H) → Nat
  | [] => 0
  | x :: r => uptoBulkEntry x + uptoBulkEntries r
def uptoBulkEntry {H : Type} : Lit × DataW H → Nat
  | (.string bytes, d) => bytes.length + uptoBulk d + 1
  | (_, d) => uptoBulk d + 1
 end
def uptoSmall : (H : Type) → List (DataW H) → Bool := fun _ ds => decide (uptoBulkAll ds ≤ 1048576)
def OpenSpec.upto (s : _root_.Go.ChangeSpec) : _root_.Go.OpenSpec := { _root_.Go.OpenSpec.ofChange s with cond := some uptoSmall }

/-- 'trivetlaw21.SequencerOrder', WHERE WHAT IT READS IS OF BULK AT MOST 1048576: true; the input reads as it did. -/
def sequencerOrderUptoRow : OpenClaim := { program := "ytgmlpmdfkaadhaa", sum := "e98736a1b6c9e009159de1f5ee569173c950ed1b4ad8f5371e2f1951d564fa5f", func := "trivet/trivetlaw21.SequencerOrder", spec := "sequencerOrder", unfollowed := true, recurses := true, plainKeys := false, apart := false, narrowed := true }
def SequencerOrderUptoSaid : Prop := sequencerOrderUptoRow.holds Try.pinned (OpenSpec.upto sequencerOrderSpec)

/-- 'trivetlaw21.SequencerFull', WHERE WHAT IT READS IS OF BULK AT MOST 1048576: true; the input reads as it did. -/
def sequencerFullUptoRow : OpenClaim := { program := "ytgmlpmdfkaadhaa", sum := "e98736a1b6c9e009159de1f5ee569173c950ed1b4ad8f5371e2f1951d564fa5f", func := "trivet/trivetlaw21.SequencerFull", spec := "sequencerFull", unfollowed := true, recurses := true, plainKeys := false, apart := false, narrowed := true }
def SequencerFullUptoSaid : Prop := sequencerFullUptoRow.holds Try.pinned (OpenSpec.upto sequencerFullSpec)

/-- 'trivetlaw21.SequencerOwn', WHERE WHAT IT READS IS OF BULK AT MOST 1048576: true; the input reads as it did. -/
def sequencerOwnUptoRow : OpenClaim := { program := "ytgmlpmdfkaadhaa", sum := "e98736a1b6c9e009159de1f5ee569173c950ed1b4ad8f5371e2f1951d564fa5f", func := "trivet/trivetlaw21.SequencerOwn", spec := "sequencerOwn", unfollowed := true, recurses := true, plainKeys := false, apart := false, narrowed := true }
def SequencerOwnUptoSaid : Prop := sequencerOwnUptoRow.holds Try.pinned (OpenSpec.upto sequencerOwnSpec)

/-- 'trivetlaw21.SequencerDoes', WHERE WHAT IT READS IS OF BULK AT MOST 1048576: true; the input reads as it did. -/
def sequencerDoesUptoRow : OpenClaim := { program := "ytgmlpmdfkaadhaa", sum := "e98736a1b6c9e009159de1f5ee569173c950ed1b4ad8f5371e2f1951d564fa5f", func := "trivet/trivetlaw21.SequencerDoes", spec := "sequencerDoes", inPlace := ["maps.clone"], unfollowed := true, recurses := true, plainKeys := false, apart := false, narrowed := true }
def SequencerDoesUptoSaid : Prop := sequencerDoesUptoRow.holds Try.pinned (OpenSpec.upto sequencerDoesSpec)

/-- 'trivetlaw21.SequencerNone', WHERE WHAT IT READS IS OF BULK AT MOST 1048576: true; the input reads as it did. -/
def sequencerNoneUptoRow : OpenClaim := { program := "ytgmlpmdfkaadhaa", sum := "e98736a1b6c9e009159de1f5ee569173c950ed1b4ad8f5371e2f1951d564fa5f", func := "trivet/trivetlaw21.SequencerNone", spec := "sequencerNone", inPlace := ["maps.clone"], unfollowed := true, recurses := true, plainKeys := false, apart := false, narrowed := true }
def SequencerNoneUptoSaid : Prop := sequencerNoneUptoRow.holds Try.pinned (OpenSpec.upto sequencerNoneSpec)

end Rows
end Go.Proofs.Ytgmlpmdfkaadhaa
