/- Contracts of a flash's looks, Down, Blocks, Restart, SetFuse, Crash. -/
import Derived.Test.YtandhpnpodkemaaFBase
set_option linter.unusedVariables false
set_option linter.unusedSimpArgs false
namespace Go.Proofs.Ytandhpnpodkemaa.M
open Go.RowKit

theorem enter_any (g : FuncId) (fn : Func) (c : Code) (h : Try.prog.funcs[g]? = some fn) (hb : fn.body = some c) (hn : (fn.name == "runtime.NumGoroutine") = false) (args : Array Value) (W : World) : (callFunc g args).run Try.prog W = .ok (.enter g args) W := by
  have hn' : ¬ fn.name = "runtime.NumGoroutine" := by simpa using hn
  simp [callFunc, go_sem, h, hb, hn']
def looksE (fl : Fl) (r : Bool) : Int := if fl.down = true then 7 else if r = true then 0 else 1
theorem looks_is {w : World} {f g : Nat} {fl : Fl} (h : IsF w f g fl) (gid : FuncId) (cap : Array Value) (r : Bool) (hg : ∀ (args : Array Value) (W : World), (callFunc gid args).run Try.prog W = .ok (.enter gid args) W)
    (hok : Calls Try.prog gid cap w fun e w' => e = .returned (.bool r) ∧ w = w') :
    Calls Try.prog 31 #[.pointer (some ⟨f, 0, none⟩), .func (.func gid) #[] cap] w fun e w' => e = .returned (.int .i64 (looksE fl r)) ∧ w = w' := by
  have HN := Lib.hid (none_is h)
  have h3 := h.c3
  have HOK := Lib.hid hok
  clear h hok
  unfold looksE
  cases hd : fl.down with
  | true =>
    rw [hd] at h3
    simp only [if_true]
    go_enter Try.func31, Try.ntmps31
    go_wp2_with (go_at_call 41; refine HN.out.mono ?_; rintro e w' ⟨rfl, rfl⟩)
    go_ret
    exact ⟨rfl, rfl⟩
  | false =>
    rw [hd] at h3
    cases r with
    | true =>
      simp only [if_true, Bool.false_eq_true, if_false]
      go_enter Try.func31, Try.ntmps31
      go_wp2_with (go_at_call 41; refine HN.out.mono ?_; rintro e w' ⟨rfl, rfl⟩)
      refine HOK.out.mono ?_
      rintro e w' ⟨rfl, rfl⟩
      go_wp2
      go_ret
      exact ⟨rfl, rfl⟩
    | false =>
      simp only [Bool.false_eq_true, if_false]
      go_enter Try.func31, Try.ntmps31
      go_wp2_with (go_at_call 41; refine HN.out.mono ?_; rintro e w' ⟨rfl, rfl⟩)
      refine HOK.out.mono ?_
      rintro e w' ⟨rfl, rfl⟩
      go_wp2
      go_ret
      exact ⟨rfl, rfl⟩
/-- looks, of nil or of a flash that no call made: v its pointer. -/
theorem looks_none {w : World} {v : Value} (hn : Calls Try.prog 41 #[v] w fun e w' => e = .returned (.bool true) ∧ w = w') (k : Value) :
    Calls Try.prog 31 #[v, k] w fun e w' => e = .returned (.int .i64 2) ∧ w = w' := by
  have HN := Lib.hid hn
  clear hn
  go_enter Try.func31, Try.ntmps31
  go_wp2_with (go_at_call 41; refine HN.out.mono ?_; rintro e w' ⟨rfl, rfl⟩)
  go_ret
  exact ⟨rfl, rfl⟩
theorem down_is {w : World} {f g : Nat} {fl : Fl} (h : IsF w f g fl) : Calls Try.prog 12 #[.pointer (some ⟨f, 0, none⟩)] w fun e w' => e = .returned (.bool fl.down) ∧ w = w' := by
  have HN := Lib.hid (none_is h)
  have h3 := h.c3
  clear h
  go_enter Try.func12, Try.ntmps12
  go_wp2_with (go_at_call 41; refine HN.out.mono ?_; rintro e w' ⟨rfl, rfl⟩)
  go_ret
  exact ⟨rfl, rfl⟩
theorem down_none {w : World} {v : Value} (hn : Calls Try.prog 41 #[v] w fun e w' => e = .returned (.bool true) ∧ w = w') : Calls Try.prog 12 #[v] w fun e w' => e = .returned (.bool false) ∧ w = w' := by
  have HN := Lib.hid hn
  clear hn
  go_enter Try.func12, Try.ntmps12
  go_wp2_with (go_at_call 41; refine HN.out.mono ?_; rintro e w' ⟨rfl, rfl⟩)
  go_ret
  exact ⟨rfl, rfl⟩
theorem blocks_is {w : World} {f g : Nat} {fl : Fl} (h : IsF w f g fl) : Calls Try.prog 20 #[.pointer (some ⟨f, 0, none⟩)] w fun e w' => e = .returned (.int .i64 (fl.n : Int)) ∧ w = w' := by
  have HN := Lib.hid (none_is h)
  have h0 := h.c0
  clear h
  go_enter Try.func20, Try.ntmps20
  go_wp2_with (go_at_call 41; refine HN.out.mono ?_; rintro e w' ⟨rfl, rfl⟩)
  go_ret
  exact ⟨rfl, rfl⟩
theorem blocks_none {w : World} {v : Value} (hn : Calls Try.prog 41 #[v] w fun e w' => e = .returned (.bool true) ∧ w = w') : Calls Try.prog 20 #[v] w fun e w' => e = .returned (.int .i64 0) ∧ w = w' := by
  have HN := Lib.hid hn
  clear hn
  go_enter Try.func20, Try.ntmps20
  go_wp2_with (go_at_call 41; refine HN.out.mono ?_; rintro e w' ⟨rfl, rfl⟩)
  go_ret
  exact ⟨rfl, rfl⟩
/-- Restart: its answer, and the flash behind it. -/
def restartE (fl : Fl) : Int := if fl.down = true then 0 else 1
def restartF (fl : Fl) : Fl := { fl with down := false }
theorem restart_is {w : World} {f g : Nat} {fl : Fl} (h : IsF w f g fl) : Calls Try.prog 15 #[.pointer (some ⟨f, 0, none⟩)] w fun e w' => e = .returned (.int .i64 (restartE fl)) ∧ IsF w' f g (restartF fl) ∧ KeepF f g w w' := by
  have HN := Lib.hid (none_is h)
  have h3 := h.c3
  have z3 := h.z 3
  have HI := Lib.hid h
  clear h
  obtain ⟨R, HR⟩ : ∃ R, RowKit.Hid (restartF fl = R) := ⟨_, Lib.hid rfl⟩
  rw [HR.out]
  unfold restartE
  cases hd : fl.down with
  | true =>
    rw [hd] at h3
    simp only [if_true]
    go_enter Try.func15, Try.ntmps15
    go_wp2_with (go_at_call 41; refine HN.out.mono ?_; rintro e w' ⟨rfl, rfl⟩)
    go_ret
    exact ⟨rfl, by rw [← HR.out]; exact HI.out.setDown false, (KeepF.refl _ _ _).setF _ _⟩
  | false =>
    rw [hd] at h3
    simp only [Bool.false_eq_true, if_false]
    have HS := Lib.hid (show fl = R by rw [← HR.out]; unfold restartF; rw [← hd])
    go_enter Try.func15, Try.ntmps15
    go_wp2_with (go_at_call 41; refine HN.out.mono ?_; rintro e w' ⟨rfl, rfl⟩)
    go_ret
    exact ⟨rfl, by rw [← HS.out]; exact HI.out, KeepF.refl _ _ _⟩
theorem restart_none {w : World} {v : Value} (hn : Calls Try.prog 41 #[v] w fun e w' => e = .returned (.bool true) ∧ w = w') : Calls Try.prog 15 #[v] w fun e w' => e = .returned (.int .i64 2) ∧ w = w' := by
  have HN := Lib.hid hn
  clear hn
  go_enter Try.func15, Try.ntmps15
  go_wp2_with (go_at_call 41; refine HN.out.mono ?_; rintro e w' ⟨rfl, rfl⟩)
  go_ret
  exact ⟨rfl, rfl⟩
end Go.Proofs.Ytandhpnpodkemaa.M
