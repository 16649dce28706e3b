/-
  No cell of these rows narrows 'for every input' (looked for: loops, veiled, ifaces, maps, wideKeys, modest, calm, conditions, laid).
  DERIVED. THE GIVEN ROWS OF THIS SEAT. 7 by the template 'for every input the law returns true; each argument reads behind the call as it read before'; 0 by the template 'total and deterministic' (their statements: YtdapnponlmimaaaTotals.lean).
  GIVEN WITH THE SEED: the statements are not yours to turn. If you find one false, say at which input.
  Laid BY PROGRAM, IN A SANDBOX (cutbox-rows.mjs): the forced cells as the released guide's own fill.sh prints them over the translation ab3a1591c24eb47f… (all of the seat's roots in one cut). By AI agents, Wed Nov 11 2026. No macro, syntax, notation, axiom, sorry.
-/
import Derived.Test.YtdapnponlmimaaaChecked
import GoSem.Claim
import GoSem.ClaimJoined
import GoSem.ClaimMapViews
import Derived.JoinedTies
import Derived.KernelRfl
namespace Go.Proofs.Ytdapnponlmimaaa
/- THE CELL 'sum', in the pinned program and in every row, IS THE sha256 OF THE DUMP (.gsa) THAT YtdapnponlmimaaaProg.lean LOADS. Nothing in Lean hashes anything: it is a label: what it is worth is what the hold of that sum in a sandbox is worth. -/
noncomputable def Try.pinned : Pinned := { name := "ytdapnponlmimaaa", sum := "ab3a1591c24eb47f5d9e7d5a1da35a15870b3d8623017b771f45919eb1d7589e", checked := Try.checked }
namespace Rows
def none {H : Type} : Left H := { results := [], args := [] }

/-- 'trivetlaw01.FormNums': WHATEVER THE INPUT: true; the input reads as it did. -/
def formNumsSpec : ChangeSpec := { name := "formNums", fn := fun _ => fun
  | [d1, d2] => { results := [.lit (.bool true)], args := [d1, d2] }
  | _ => none }
def formNumsRow : OpenClaim := { program := "ytdapnponlmimaaa", sum := "ab3a1591c24eb47f5d9e7d5a1da35a15870b3d8623017b771f45919eb1d7589e", func := "trivet/trivetlaw01.FormNums", spec := "formNums", unfollowed := true, recurses := true, apart := false }
def FormNumsSaid : Prop := formNumsRow.holds Try.pinned (OpenSpec.ofChange formNumsSpec)

/-- ITS FALSE NEIGHBOUR: 'it returns false'. Refute it at one input. -/
def formNumsWrong : ChangeSpec := { name := "formNums", fn := fun _ => fun
  | [d1, d2] => { results := [.lit (.bool false)], args := [d1, d2] }
  | _ => none }
def FormNumsWrongFalsely : Prop := formNumsRow.holds Try.pinned (OpenSpec.ofChange formNumsWrong)

/-- 'trivetlaw01.FormOne': WHATEVER THE INPUT: true; the input reads as it did. -/
def formOneSpec : ChangeSpec := { name := "formOne", fn := fun _ => fun
  | [d] => { results := [.lit (.bool true)], args := [d] }
  | _ => none }
def formOneRow : OpenClaim := { program := "ytdapnponlmimaaa", sum := "ab3a1591c24eb47f5d9e7d5a1da35a15870b3d8623017b771f45919eb1d7589e", func := "trivet/trivetlaw01.FormOne", spec := "formOne", unfollowed := true, recurses := true, apart := false }
def FormOneSaid : Prop := formOneRow.holds Try.pinned (OpenSpec.ofChange formOneSpec)

/-- ITS FALSE NEIGHBOUR: 'it returns false'. Refute it at one input. -/
def formOneWrong : ChangeSpec := { name := "formOne", fn := fun _ => fun
  | [d] => { results := [.lit (.bool false)], args := [d] }
  | _ => none }
def FormOneWrongFalsely : Prop := formOneRow.holds Try.pinned (OpenSpec.ofChange formOneWrong)

/-- 'trivetlaw01.FormOwn': WHATEVER THE INPUT: true; the input reads as it did. -/
def formOwnSpec : ChangeSpec := { name := "formOwn", fn := fun _ => fun
  | [d1, d2] => { results := [.lit (.bool true)], args := [d1, d2] }
  | _ => none }
def formOwnRow : OpenClaim := { program := "ytdapnponlmimaaa", sum := "ab3a1591c24eb47f5d9e7d5a1da35a15870b3d8623017b771f45919eb1d7589e", func := "trivet/trivetlaw01.FormOwn", spec := "formOwn", unfollowed := true, recurses := true, apart := false }
def FormOwnSaid : Prop := formOwnRow.holds Try.pinned (OpenSpec.ofChange formOwnSpec)

/-- ITS FALSE NEIGHBOUR: 'it returns false'. Refute it at one input. -/
def formOwnWrong : ChangeSpec := { name := "formOwn", fn := fun _ => fun
  | [d1, d2] => { results := [.lit (.bool false)], args := [d1, d2] }
  | _ => none }
def FormOwnWrongFalsely : Prop := formOwnRow.holds Try.pinned (OpenSpec.ofChange formOwnWrong)

/-- 'trivetlaw01.FormBlobs': WHATEVER THE INPUT: true; the input reads as it did. -/
def formBlobsSpec : ChangeSpec := { name := "formBlobs", fn := fun _ => fun
  | [d1, d2, d3] => { results := [.lit (.bool true)], args := [d1, d2, d3] }
  | _ => none }
def formBlobsRow : OpenClaim := { program := "ytdapnponlmimaaa", sum := "ab3a1591c24eb47f5d9e7d5a1da35a15870b3d8623017b771f45919eb1d7589e", func := "trivet/trivetlaw01.FormBlobs", spec := "formBlobs", unfollowed := true, recurses := true, apart := false }
def FormBlobsSaid : Prop := formBlobsRow.holds Try.pinned (OpenSpec.ofChange formBlobsSpec)

/-- ITS FALSE NEIGHBOUR: 'it returns false'. Refute it at one input. -/
def formBlobsWrong : ChangeSpec := { name := "formBlobs", fn := fun _ => fun
  | [d1, d2, d3] => { results := [.lit (.bool false)], args := [d1, d2, d3] }
  | _ => none }
def FormBlobsWrongFalsely : Prop := formBlobsRow.holds Try.pinned (OpenSpec.ofChange formBlobsWrong)

/-- 'trivetlaw01.FormBack': WHATEVER THE INPUT: true; the input reads as it did. -/
def formBackSpec : ChangeSpec := { name := "formBack", fn := fun _ => fun
  | [d1, d2, d3] => { results := [.lit (.bool true)], args := [d1, d2, d3] }
  | _ => none }
def formBackRow : OpenClaim := { program := "ytdapnponlmimaaa", sum := "ab3a1591c24eb47f5d9e7d5a1da35a15870b3d8623017b771f45919eb1d7589e", func := "trivet/trivetlaw01.FormBack", spec := "formBack", unfollowed := true, recurses := true, apart := false }
def FormBackSaid : Prop := formBackRow.holds Try.pinned (OpenSpec.ofChange formBackSpec)

/-- ITS FALSE NEIGHBOUR: 'it returns false'. Refute it at one input. -/
def formBackWrong : ChangeSpec := { name := "formBack", fn := fun _ => fun
  | [d1, d2, d3] => { results := [.lit (.bool false)], args := [d1, d2, d3] }
  | _ => none }
def FormBackWrongFalsely : Prop := formBackRow.holds Try.pinned (OpenSpec.ofChange formBackWrong)

/-- 'trivetlaw01.FormSeals': WHATEVER THE INPUT: true; the input reads as it did. -/
def formSealsSpec : ChangeSpec := { name := "formSeals", fn := fun _ => fun
  | [d1, d2] => { results := [.lit (.bool true)], args := [d1, d2] }
  | _ => none }
def formSealsRow : OpenClaim := { program := "ytdapnponlmimaaa", sum := "ab3a1591c24eb47f5d9e7d5a1da35a15870b3d8623017b771f45919eb1d7589e", func := "trivet/trivetlaw01.FormSeals", spec := "formSeals", unfollowed := true, recurses := true, apart := false }
def FormSealsSaid : Prop := formSealsRow.holds Try.pinned (OpenSpec.ofChange formSealsSpec)

/-- ITS FALSE NEIGHBOUR: 'it returns false'. Refute it at one input. -/
def formSealsWrong : ChangeSpec := { name := "formSeals", fn := fun _ => fun
  | [d1, d2] => { results := [.lit (.bool false)], args := [d1, d2] }
  | _ => none }
def FormSealsWrongFalsely : Prop := formSealsRow.holds Try.pinned (OpenSpec.ofChange formSealsWrong)

/-- 'trivetlaw01.FormWhole': WHATEVER THE INPUT: true; the input reads as it did. -/
def formWholeSpec : ChangeSpec := { name := "formWhole", fn := fun _ => fun
  | [d1, d2, d3] => { results := [.lit (.bool true)], args := [d1, d2, d3] }
  | _ => none }
def formWholeRow : OpenClaim := { program := "ytdapnponlmimaaa", sum := "ab3a1591c24eb47f5d9e7d5a1da35a15870b3d8623017b771f45919eb1d7589e", func := "trivet/trivetlaw01.FormWhole", spec := "formWhole", unfollowed := true, recurses := true, apart := false }
def FormWholeSaid : Prop := formWholeRow.holds Try.pinned (OpenSpec.ofChange formWholeSpec)

/-- ITS FALSE NEIGHBOUR: 'it returns false'. Refute it at one input. -/
def formWholeWrong : ChangeSpec := { name := "formWhole", fn := fun _ => fun
  | [d1, d2, d3] => { results := [.lit (.bool false)], args := [d1, d2, d3] }
  | _ => none }
def FormWholeWrongFalsely : Prop := formWholeRow.holds Try.pinned (OpenSpec.ofChange formWholeWrong)

/- THE SECOND FORM. 'bulk': how many values and letters a reading holds, each counted each time it is reached (what is shared counts as often as it is met; a slice's spare places count too). A statement '..UptoSaid' is the law's where the arguments, and the package variables that the reading takes, are together of bulk at most 1048576: NARROWER than '..Said'. Prove '..Said' where nothing that the law and all that it calls make is longer than what came in: it says more and counts as full. Else prove '..UptoSaid'. A law counts once. -/
mutual
def uptoBulk {H : Type} : DataW H → Nat
  | .lit (.string bytes) => bytes.length + 1
  | .lit _ => 1
  | .nil => 1
  | .ptr d => uptoBulk d + 1
  | .slice elems spare => uptoBulkAll elems + uptoBulkAll spare + 1
  | .agg parts => uptoBulkAll parts + 1
  | .iface _ d => uptoBulk d + 1
  | .map entries => uptoBulkEntries entries + 1
  | .held _ => 1
def uptoBulkAll {H : Type} : List (DataW H) → Nat
  | [] => 0
  | d :: r => uptoBulk d + uptoBulkAll r
def uptoBulkEntries {H : Type} : List (Lit × DataW H) → Nat
  | [] => 0
  | x :: r => uptoBulkEntry x + uptoBulkEntries r
def uptoBulkEntry {H : Type} : Lit × DataW H → Nat
  | (.string bytes, d) => bytes.length + uptoBulk d + 1
  | (_, d) => uptoBulk d + 1
 end
def uptoSmall : (H : Type) → List (DataW H) → Bool := fun _ ds => decide (uptoBulkAll ds ≤ 1048576)
def OpenSpec.upto (s : _root_.Go.ChangeSpec) : _root_.Go.OpenSpec := { _root_.Go.OpenSpec.ofChange s with cond := some uptoSmall }

/-- 'trivetlaw01.FormNums', WHERE WHAT IT READS IS OF BULK AT MOST 1048576: true; the input reads as it did. -/
def formNumsUptoRow : OpenClaim := { program := "ytdapnponlmimaaa", sum := "ab3a1591c24eb47f5d9e7d5a1da35a15870b3d8623017b771f45919eb1d7589e", func := "trivet/trivetlaw01.FormNums", spec := "formNums", unfollowed := true, recurses := true, apart := false, narrowed := true }
def FormNumsUptoSaid : Prop := formNumsUptoRow.holds Try.pinned (OpenSpec.upto formNumsSpec)

/-- 'trivetlaw01.FormOne', WHERE WHAT IT READS IS OF BULK AT MOST 1048576: true; the input reads as it did. -/
def formOneUptoRow : OpenClaim := { program := "ytdapnponlmimaaa", sum := "ab3a1591c24eb47f5d9e7d5a1da35a15870b3d8623017b771f45919eb1d7589e", func := "trivet/trivetlaw01.FormOne", spec := "formOne", unfollowed := true, recurses := true, apart := false, narrowed := true }
def FormOneUptoSaid : Prop := formOneUptoRow.holds Try.pinned (OpenSpec.upto formOneSpec)

/-- 'trivetlaw01.FormOwn', WHERE WHAT IT READS IS OF BULK AT MOST 1048576: true; the input reads as it did. -/
def formOwnUptoRow : OpenClaim := { program := "ytdapnponlmimaaa", sum := "ab3a1591c24eb47f5d9e7d5a1da35a15870b3d8623017b771f45919eb1d7589e", func := "trivet/trivetlaw01.FormOwn", spec := "formOwn", unfollowed := true, recurses := true, apart := false, narrowed := true }
def FormOwnUptoSaid : Prop := formOwnUptoRow.holds Try.pinned (OpenSpec.upto formOwnSpec)

/-- 'trivetlaw01.FormBlobs', WHERE WHAT IT READS IS OF BULK AT MOST 1048576: true; the input reads as it did. -/
def formBlobsUptoRow : OpenClaim := { program := "ytdapnponlmimaaa", sum := "ab3a1591c24eb47f5d9e7d5a1da35a15870b3d8623017b771f45919eb1d7589e", func := "trivet/trivetlaw01.FormBlobs", spec := "formBlobs", unfollowed := true, recurses := true, apart := false, narrowed := true }
def FormBlobsUptoSaid : Prop := formBlobsUptoRow.holds Try.pinned (OpenSpec.upto formBlobsSpec)

/-- 'trivetlaw01.FormBack', WHERE WHAT IT READS IS OF BULK AT MOST 1048576: true; the input reads as it did. -/
def formBackUptoRow : OpenClaim := { program := "ytdapnponlmimaaa", sum := "ab3a1591c24eb47f5d9e7d5a1da35a15870b3d8623017b771f45919eb1d7589e", func := "trivet/trivetlaw01.FormBack", spec := "formBack", unfollowed := true, recurses := true, apart := false, narrowed := true }
def FormBackUptoSaid : Prop := formBackUptoRow.holds Try.pinned (OpenSpec.upto formBackSpec)

/-- 'trivetlaw01.FormSeals', WHERE WHAT IT READS IS OF BULK AT MOST 1048576: true; the input reads as it did. -/
def formSealsUptoRow : OpenClaim := { program := "ytdapnponlmimaaa", sum := "ab3a1591c24eb47f5d9e7d5a1da35a15870b3d8623017b771f45919eb1d7589e", func := "trivet/trivetlaw01.FormSeals", spec := "formSeals", unfollowed := true, recurses := true, apart := false, narrowed := true }
def FormSealsUptoSaid : Prop := formSealsUptoRow.holds Try.pinned (OpenSpec.upto formSealsSpec)

/-- 'trivetlaw01.FormWhole', WHERE WHAT IT READS IS OF BULK AT MOST 1048576: true; the input reads as it did. -/
def formWholeUptoRow : OpenClaim := { program := "ytdapnponlmimaaa", sum := "ab3a1591c24eb47f5d9e7d5a1da35a15870b3d8623017b771f45919eb1d7589e", func := "trivet/trivetlaw01.FormWhole", spec := "formWhole", unfollowed := true, recurses := true, apart := false, narrowed := true }
def FormWholeUptoSaid : Prop := formWholeUptoRow.holds Try.pinned (OpenSpec.upto formWholeSpec)

end Rows
end Go.Proofs.Ytdapnponlmimaaa
