/-
  No cell of these rows narrows 'for every input' (looked for: loops, veiled, ifaces, maps, wideKeys, modest, calm, conditions, laid).
  DERIVED. THE GIVEN ROWS OF THIS SEAT. 4 by the template 'for every input the law returns true; each argument reads behind the call as it read before'; 0 by the template 'total and deterministic' (their statements: YtandhpnpodkemaaTotals.lean).
  GIVEN WITH THE SEED: the statements are not yours to turn. If you find one false, say at which input.
  Laid BY PROGRAM, IN A SANDBOX (cutbox-rows.mjs): the forced cells as the released guide's own fill.sh prints them over the translation 16e8d2115b1e742f… (all of the seat's roots in one cut). By AI agents, Wed Nov 11 2026. No macro, syntax, notation, axiom, sorry.
-/
import Derived.Test.YtandhpnpodkemaaChecked
import GoSem.Claim
import GoSem.ClaimJoined
import GoSem.ClaimMapViews
import Derived.JoinedTies
import Derived.KernelRfl
namespace Go.Proofs.Ytandhpnpodkemaa
/- THE CELL 'sum', in the pinned program and in every row, IS THE sha256 OF THE DUMP (.gsa) THAT YtandhpnpodkemaaProg.lean LOADS. Nothing in Lean hashes anything: it is a label: what it is worth is what the hold of that sum in a sandbox is worth. -/
noncomputable def Try.pinned : Pinned := { name := "ytandhpnpodkemaa", sum := "16e8d2115b1e742f4d4f08de2cd73e62621ffee89f1ae92d0aeac18d3ce3510a", checked := Try.checked }
namespace Rows
def none {H : Type} : Left H := { results := [], args := [] }

/-- 'trivetlaw02.FlashSure': WHATEVER THE INPUT: true; the input reads as it did. -/
def flashSureSpec : ChangeSpec := { name := "flashSure", fn := fun _ => fun
  | [d] => { results := [.lit (.bool true)], args := [d] }
  | _ => none }
def flashSureRow : OpenClaim := { program := "ytandhpnpodkemaa", sum := "16e8d2115b1e742f4d4f08de2cd73e62621ffee89f1ae92d0aeac18d3ce3510a", func := "trivet/trivetlaw02.FlashSure", spec := "flashSure", unfollowed := true, recurses := true, plainKeys := false, apart := false }
def FlashSureSaid : Prop := flashSureRow.holds Try.pinned (OpenSpec.ofChange flashSureSpec)

/-- ITS FALSE NEIGHBOUR: 'it returns false'. Refute it at one input. -/
def flashSureWrong : ChangeSpec := { name := "flashSure", fn := fun _ => fun
  | [d] => { results := [.lit (.bool false)], args := [d] }
  | _ => none }
def FlashSureWrongFalsely : Prop := flashSureRow.holds Try.pinned (OpenSpec.ofChange flashSureWrong)

/-- 'trivetlaw02.FlashOne': WHATEVER THE INPUT: true; the input reads as it did. -/
def flashOneSpec : ChangeSpec := { name := "flashOne", fn := fun _ => fun
  | [d1, d2] => { results := [.lit (.bool true)], args := [d1, d2] }
  | _ => none }
def flashOneRow : OpenClaim := { program := "ytandhpnpodkemaa", sum := "16e8d2115b1e742f4d4f08de2cd73e62621ffee89f1ae92d0aeac18d3ce3510a", func := "trivet/trivetlaw02.FlashOne", spec := "flashOne", unfollowed := true, recurses := true, plainKeys := false, apart := false }
def FlashOneSaid : Prop := flashOneRow.holds Try.pinned (OpenSpec.ofChange flashOneSpec)

/-- ITS FALSE NEIGHBOUR: 'it returns false'. Refute it at one input. -/
def flashOneWrong : ChangeSpec := { name := "flashOne", fn := fun _ => fun
  | [d1, d2] => { results := [.lit (.bool false)], args := [d1, d2] }
  | _ => none }
def FlashOneWrongFalsely : Prop := flashOneRow.holds Try.pinned (OpenSpec.ofChange flashOneWrong)

/-- 'trivetlaw02.FlashNone': WHATEVER THE INPUT: true; the input reads as it did. -/
def flashNoneSpec : ChangeSpec := { name := "flashNone", fn := fun _ => fun
  | [d] => { results := [.lit (.bool true)], args := [d] }
  | _ => none }
def flashNoneRow : OpenClaim := { program := "ytandhpnpodkemaa", sum := "16e8d2115b1e742f4d4f08de2cd73e62621ffee89f1ae92d0aeac18d3ce3510a", func := "trivet/trivetlaw02.FlashNone", spec := "flashNone", unfollowed := true, recurses := true, plainKeys := false, apart := false }
def FlashNoneSaid : Prop := flashNoneRow.holds Try.pinned (OpenSpec.ofChange flashNoneSpec)

/-- ITS FALSE NEIGHBOUR: 'it returns false'. Refute it at one input. -/
def flashNoneWrong : ChangeSpec := { name := "flashNone", fn := fun _ => fun
  | [d] => { results := [.lit (.bool false)], args := [d] }
  | _ => none }
def FlashNoneWrongFalsely : Prop := flashNoneRow.holds Try.pinned (OpenSpec.ofChange flashNoneWrong)

/-- 'trivetlaw02.FlashDoes': WHATEVER THE INPUT: true; the input reads as it did. -/
def flashDoesSpec : ChangeSpec := { name := "flashDoes", fn := fun _ => fun
  | [d1, d2] => { results := [.lit (.bool true)], args := [d1, d2] }
  | _ => none }
def flashDoesRow : OpenClaim := { program := "ytandhpnpodkemaa", sum := "16e8d2115b1e742f4d4f08de2cd73e62621ffee89f1ae92d0aeac18d3ce3510a", func := "trivet/trivetlaw02.FlashDoes", spec := "flashDoes", unfollowed := true, recurses := true, plainKeys := false, apart := false }
def FlashDoesSaid : Prop := flashDoesRow.holds Try.pinned (OpenSpec.ofChange flashDoesSpec)

/-- ITS FALSE NEIGHBOUR: 'it returns false'. Refute it at one input. -/
def flashDoesWrong : ChangeSpec := { name := "flashDoes", fn := fun _ => fun
  | [d1, d2] => { results := [.lit (.bool false)], args := [d1, d2] }
  | _ => none }
def FlashDoesWrongFalsely : Prop := flashDoesRow.holds Try.pinned (OpenSpec.ofChange flashDoesWrong)

/- THE SECOND FORM. 'bulk': how many values and letters a reading holds, each counted each time it is reached (what is shared counts as often as it is met; a slice's spare places count too). A statement '..UptoSaid' is the law's where the arguments, and the package variables that the reading takes, are together of bulk at most 1048576: NARROWER than '..Said'. Prove '..Said' where nothing that the law and all that it calls make is longer than what came in: it says more and counts as full. Else prove '..UptoSaid'. A law counts once. -/
mutual
def uptoBulk {H : Type} : DataW H → Nat
  | .lit (.string bytes) => bytes.length + 1
  | .lit _ => 1
  | .nil => 1
  | .ptr d => uptoBulk d + 1
  | .slice elems spare => uptoBulkAll elems + uptoBulkAll spare + 1
  | .agg parts => uptoBulkAll parts + 1
  | .iface _ d => uptoBulk d + 1
  | .map entries => uptoBulkEntries entries + 1
  | .held _ => 1
def uptoBulkAll {H : Type} : List (DataW H) → Nat
  | [] => 0
  | d :: r => uptoBulk d + uptoBulkAll r
def uptoBulkEntries {H : Type} : List (Lit × DataW H) → Nat
  | [] => 0
  | x :: r => uptoBulkEntry x + uptoBulkEntries r
def uptoBulkEntry {H : Type} : Lit × DataW H → Nat
  | (.string bytes, d) => bytes.length + uptoBulk d + 1
  | (_, d) => uptoBulk d + 1
 end
def uptoSmall : (H : Type) → List (DataW H) → Bool := fun _ ds => decide (uptoBulkAll ds ≤ 1048576)
def OpenSpec.upto (s : _root_.Go.ChangeSpec) : _root_.Go.OpenSpec := { _root_.Go.OpenSpec.ofChange s with cond := some uptoSmall }

/-- 'trivetlaw02.FlashSure', WHERE WHAT IT READS IS OF BULK AT MOST 1048576: true; the input reads as it did. -/
def flashSureUptoRow : OpenClaim := { program := "ytandhpnpodkemaa", sum := "16e8d2115b1e742f4d4f08de2cd73e62621ffee89f1ae92d0aeac18d3ce3510a", func := "trivet/trivetlaw02.FlashSure", spec := "flashSure", unfollowed := true, recurses := true, plainKeys := false, apart := false, narrowed := true }
def FlashSureUptoSaid : Prop := flashSureUptoRow.holds Try.pinned (OpenSpec.upto flashSureSpec)

/-- 'trivetlaw02.FlashOne', WHERE WHAT IT READS IS OF BULK AT MOST 1048576: true; the input reads as it did. -/
def flashOneUptoRow : OpenClaim := { program := "ytandhpnpodkemaa", sum := "16e8d2115b1e742f4d4f08de2cd73e62621ffee89f1ae92d0aeac18d3ce3510a", func := "trivet/trivetlaw02.FlashOne", spec := "flashOne", unfollowed := true, recurses := true, plainKeys := false, apart := false, narrowed := true }
def FlashOneUptoSaid : Prop := flashOneUptoRow.holds Try.pinned (OpenSpec.upto flashOneSpec)

/-- 'trivetlaw02.FlashNone', WHERE WHAT IT READS IS OF BULK AT MOST 1048576: true; the input reads as it did. -/
def flashNoneUptoRow : OpenClaim := { program := "ytandhpnpodkemaa", sum := "16e8d2115b1e742f4d4f08de2cd73e62621ffee89f1ae92d0aeac18d3ce3510a", func := "trivet/trivetlaw02.FlashNone", spec := "flashNone", unfollowed := true, recurses := true, plainKeys := false, apart := false, narrowed := true }
def FlashNoneUptoSaid : Prop := flashNoneUptoRow.holds Try.pinned (OpenSpec.upto flashNoneSpec)

/-- 'trivetlaw02.FlashDoes', WHERE WHAT IT READS IS OF BULK AT MOST 1048576: true; the input reads as it did. -/
def flashDoesUptoRow : OpenClaim := { program := "ytandhpnpodkemaa", sum := "16e8d2115b1e742f4d4f08de2cd73e62621ffee89f1ae92d0aeac18d3ce3510a", func := "trivet/trivetlaw02.FlashDoes", spec := "flashDoes", unfollowed := true, recurses := true, plainKeys := false, apart := false, narrowed := true }
def FlashDoesUptoSaid : Prop := flashDoesUptoRow.holds Try.pinned (OpenSpec.upto flashDoesSpec)

end Rows
end Go.Proofs.Ytandhpnpodkemaa
