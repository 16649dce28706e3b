/- Contracts of a flash's none, is, place, looks, Down, Blocks, Restart, SetFuse, Crash. -/
import Derived.Test.YtandhpnpodkemaaFRep
import Derived.Lib.SliceRun
set_option linter.unusedVariables false
set_option linter.unusedSimpArgs false
namespace Go.Proofs.Ytandhpnpodkemaa.M
open Go.RowKit

/-- A flash that no call made. -/
def IsZ (w : World) (f : Nat) : Prop := w.heap[f]? = some (.cells #[.slice none 0 0, .int .i64 0, .int .i64 0, .bool false] 47)
theorem IsZ.c0 {w : World} {f : Nat} (h : IsZ w f) : w.cell? ⟨f, 0, none⟩ = some (.slice none 0 0) := by unfold IsZ at h; simp [World.cell?, h]
theorem IsZ.flt {w : World} {f : Nat} (h : IsZ w f) : f < w.heap.size := (Array.getElem?_eq_some_iff.1 h).1

theorem none_nil (w : World) : Calls Try.prog 41 #[.pointer none] w fun e w' => e = .returned (.bool true) ∧ w = w' := by
  go_enter Try.func41, Try.ntmps41
  go_wp2
  refine bodyPost_ret (v := .bool true) (by simp [results, Try.results41]) rfl ⟨rfl, rfl⟩
theorem none_zero {w : World} {f : Nat} (h : IsZ w f) : Calls Try.prog 41 #[.pointer (some ⟨f, 0, none⟩)] w fun e w' => e = .returned (.bool true) ∧ w = w' := by
  have qT : ∀ (w : World) (a : Option Addr) (n c n' c' : Nat), (binOp .eql 45 (.slice a n c) (.slice none n' c')).run Try.prog w = .ok (.bool a.isNone) w := fun w a n c n' c' => Lib.run_eql_slice_nil w _ _ a n c n' c' Try.underlying45
  have h0 := h.c0
  go_enter Try.func41, Try.ntmps41
  go_wp2
  refine bodyPost_ret (v := .bool true) (by simp [results, Try.results41]) rfl ⟨rfl, rfl⟩
theorem none_is {w : World} {f g : Nat} {fl : Fl} (h : IsF w f g fl) : Calls Try.prog 41 #[.pointer (some ⟨f, 0, none⟩)] w fun e w' => e = .returned (.bool false) ∧ w = w' := by
  have qT : ∀ (w : World) (a : Option Addr) (n c n' c' : Nat), (binOp .eql 45 (.slice a n c) (.slice none n' c')).run Try.prog w = .ok (.bool a.isNone) w := fun w a n c n' c' => Lib.run_eql_slice_nil w _ _ a n c n' c' Try.underlying45
  have h0 := h.c0
  go_enter Try.func41, Try.ntmps41
  go_wp2
  go_ret
  exact ⟨rfl, rfl⟩
theorem place_calls (p : Int) (w : World) : Calls Try.prog 34 #[.int .i64 p] w fun e w' => e = .returned (.bool (decide (0 ≤ p) && decide (p < 16))) ∧ w = w' := by
  by_cases h0 : 0 ≤ p
  · have g0 : decide (0 ≤ p) = true := decide_eq_true h0
    rw [g0, Bool.true_and]
    obtain ⟨q, hq⟩ : ∃ q, decide (p < 16) = q := ⟨_, rfl⟩
    rw [hq]
    go_enter Try.func34, Try.ntmps34
    go_wp2
    go_ret
    exact ⟨rfl, rfl⟩
  · have g0 : decide (0 ≤ p) = false := decide_eq_false h0
    rw [g0, Bool.false_and]
    go_enter Try.func34, Try.ntmps34
    go_wp2
    go_ret
    exact ⟨rfl, rfl⟩
theorem is_calls {w : World} {f g : Nat} {fl : Fl} (h : IsF w f g fl) (b : Int) : Calls Try.prog 33 #[.pointer (some ⟨f, 0, none⟩), .int .i64 b] w fun e w' => e = .returned (.bool (decide (0 ≤ b) && decide (b < (fl.n : Int)))) ∧ w = w' := by
  have h0 := h.c0
  by_cases hb : 0 ≤ b
  · have g0 : decide (0 ≤ b) = true := decide_eq_true hb
    rw [g0, Bool.true_and]
    obtain ⟨q, hq⟩ : ∃ q, decide (b < (fl.n : Int)) = q := ⟨_, rfl⟩
    rw [hq]
    go_enter Try.func33, Try.ntmps33
    go_wp2
    go_ret
    exact ⟨rfl, rfl⟩
  · have g0 : decide (0 ≤ b) = false := decide_eq_false hb
    rw [g0, Bool.false_and]
    go_enter Try.func33, Try.ntmps33
    go_wp2
    go_ret
    exact ⟨rfl, rfl⟩
end Go.Proofs.Ytandhpnpodkemaa.M
