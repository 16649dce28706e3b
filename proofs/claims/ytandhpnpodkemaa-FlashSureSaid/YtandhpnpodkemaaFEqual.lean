/- bytes.Equal of two rows of bytes that read alike: it is true. -/
import Derived.Test.YtandhpnpodkemaaFClone
import Derived.Lib.Bytes
set_option linter.unusedVariables false
set_option linter.unusedSimpArgs false
set_option maxRecDepth 100000
namespace Go.Proofs.Ytandhpnpodkemaa.M
open Go.RowKit Go.Proofs.YtandhpnpodkemaaW.PrintWords

theorem equal_same {w : World} (A B : Option Addr) (n m c d : Nat) (l : List Int) (h1 : Kd.C (Kd.int .u8) w A n l) (h2 : Kd.C (Kd.int .u8) w B m l) :
    Calls Try.prog 17 #[.slice A n c, .slice B m d] w fun e w' => e = .returned (.bool true) ∧ w = w' := by
  have g1 := Kd.C_string (P := Try.prog) (src := 29) (e := 5) (dst := 9) (c := c) Try.underlying29 Try.underlying5 Try.underlying9 h1
  have g2 := Kd.C_string (P := Try.prog) (src := 29) (e := 5) (dst := 9) (c := d) Try.underlying29 Try.underlying5 Try.underlying9 h2
  obtain ⟨s, hs⟩ : ∃ s, strOfNums l = s := ⟨_, rfl⟩
  rw [hs] at g1 g2
  clear hs h1 h2
  go_enter Try.func17, Try.ntmps17
  go_wp2
  go_ret
  exact ⟨by simp, rfl⟩
/-- What two rows read as, and what bytes.Equal says of them. -/
def eqB (l m : List Int) : Bool := (strOfNums l).toList == (strOfNums m).toList
theorem eqB_same (l : List Int) : eqB l l = true := by simp [eqB]
theorem equal_is {w : World} (A B : Option Addr) (n m c d : Nat) (l k : List Int) (h1 : Kd.C (Kd.int .u8) w A n l) (h2 : Kd.C (Kd.int .u8) w B m k) :
    Calls Try.prog 17 #[.slice A n c, .slice B m d] w fun e w' => e = .returned (.bool (eqB l k)) ∧ w = w' := by
  have g1 := Kd.C_string (P := Try.prog) (src := 29) (e := 5) (dst := 9) (c := c) Try.underlying29 Try.underlying5 Try.underlying9 h1
  have g2 := Kd.C_string (P := Try.prog) (src := 29) (e := 5) (dst := 9) (c := d) Try.underlying29 Try.underlying5 Try.underlying9 h2
  have HE := Lib.hid (show eqB l k = ((strOfNums l).toList == (strOfNums k).toList) from rfl)
  obtain ⟨s, hs⟩ : ∃ s, strOfNums l = s := ⟨_, rfl⟩
  obtain ⟨t, ht⟩ : ∃ t, strOfNums k = t := ⟨_, rfl⟩
  rw [hs, ht] at HE
  rw [hs] at g1
  rw [ht] at g2
  rw [HE.out]
  clear hs h1 h2 ht HE
  go_enter Try.func17, Try.ntmps17
  go_wp2
  go_ret
  exact ⟨rfl, rfl⟩
end Go.Proofs.Ytandhpnpodkemaa.M
