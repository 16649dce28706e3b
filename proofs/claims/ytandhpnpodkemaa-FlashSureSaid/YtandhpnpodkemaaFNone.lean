/- What a flash that no call made (nil, or its zero) answers: v is its pointer. -/
import Derived.Test.YtandhpnpodkemaaFSpoil
set_option linter.unusedVariables false
set_option linter.unusedSimpArgs false
set_option maxRecDepth 100000
namespace Go.Proofs.Ytandhpnpodkemaa.M
open Go.RowKit Go.Proofs.YtandhpnpodkemaaW.PrintWords

/-- v is none, here and where new memory has come. -/
def IsN (w : World) (v : Value) : Prop := ∀ w', Below w.heap.size w w' → Calls Try.prog 41 #[v] w' fun e w'' => e = .returned (.bool true) ∧ w' = w''
theorem isN_nil (w : World) : IsN w (.pointer none) := fun w' _ => none_nil w'
theorem isN_zero {w : World} {f : Nat} (h : IsZ w f) : IsN w (.pointer (some ⟨f, 0, none⟩)) := fun w' hb => none_zero (by unfold IsZ; rw [hb.block f h.flt]; exact h)
theorem wear_none {w : World} {v : Value} (h : IsN w v) (b : Int) : Calls Try.prog 21 #[v, .int .i64 b] w fun e w' => e = .returned (.int .i64 0) ∧ w = w' := by
  have HN := Lib.hid (h w (Below.refl _ _))
  clear h
  go_enter Try.func21, Try.ntmps21
  go_wp2_with (go_at_call 41; refine HN.out.mono ?_; rintro e w' ⟨rfl, rfl⟩)
  go_ret
  exact ⟨rfl, rfl⟩
theorem crash_none {w : World} {v : Value} (h : IsN w v) : Calls Try.prog 14 #[v] w fun e w' => e = .returned (.int .i64 2) ∧ Below w.heap.size w w' := by
  have hL := Lib.hid (fun k => looks_none (h w (Below.refl _ _)) k)
  clear h
  go_enter Try.func14, Try.ntmps14
  go_wp2_with (go_at_call 31; refine (hL.out _).mono ?_; rintro e w' ⟨rfl, rfl⟩)
  go_ret
  exact ⟨rfl, Below.refl _ _⟩
theorem setfuse_none {w : World} {q : Option Addr} {v : Value} (hv : v = .pointer q) (h : IsN w v) (n k : Int) : Calls Try.prog 13 #[v, .int .i64 n, .int .i64 k] w fun e w' => e = .returned (.int .i64 2) ∧ Below w.heap.size w w' := by
  have hmf : ∀ (fn : Fn) (first cap : Array Value) (w : World), (Instr.makeFunc fn first cap).run Try.prog w = .ok (.func fn first cap) w := fun _ _ _ _ => rfl
  have HB := Lib.hid (show Below w.heap.size w (w.alloc (.cells #[.int .i64 n] 3)) from ((Below.refl w.heap.size w).alloc (by first | exact Nat.le_refl _ | (simp; done) | (simp; omega)) (.cells #[.int .i64 n] 3)))
  have hL := Lib.hid (fun k => looks_none (h _ HB.out) k)
  subst hv
  clear h
  go_enter Try.func13, Try.ntmps13
  go_wp2_with (go_at_call 31; refine (hL.out _).mono ?_; rintro e w' ⟨rfl, rfl⟩)
  go_ret
  exact ⟨rfl, HB.out⟩
theorem erase_none {w : World} {q : Option Addr} {v : Value} (hv : v = .pointer q) (h : IsN w v) (b : Int) : Calls Try.prog 11 #[v, .int .i64 b] w fun e w' => e = .returned (.int .i64 2) ∧ Below w.heap.size w w' := by
  have hmf : ∀ (fn : Fn) (first cap : Array Value) (w : World), (Instr.makeFunc fn first cap).run Try.prog w = .ok (.func fn first cap) w := fun _ _ _ _ => rfl
  have HB := Lib.hid (show Below w.heap.size w ((w.alloc (.cells #[v] 23)).alloc (.cells #[.int .i64 b] 3)) from (((Below.refl w.heap.size w).alloc (by first | exact Nat.le_refl _ | (simp; done) | (simp; omega)) (.cells #[v] 23)).alloc (by first | exact Nat.le_refl _ | (simp; done) | (simp; omega)) (.cells #[.int .i64 b] 3)))
  have hL := Lib.hid (fun k => looks_none (h _ HB.out) k)
  subst hv
  clear h
  go_enter Try.func11, Try.ntmps11
  go_wp2_with (go_at_call 31; refine (hL.out _).mono ?_; rintro e w' ⟨rfl, rfl⟩)
  go_ret
  exact ⟨rfl, HB.out⟩
theorem program_none {w : World} {q : Option Addr} {v : Value} (hv : v = .pointer q) (h : IsN w v) (b p : Int) (A : Option Addr) (n c : Nat) : Calls Try.prog 9 #[v, .int .i64 b, .int .i64 p, .slice A n c] w fun e w' => e = .returned (.int .i64 2) ∧ Below w.heap.size w w' := by
  have hmf : ∀ (fn : Fn) (first cap : Array Value) (w : World), (Instr.makeFunc fn first cap).run Try.prog w = .ok (.func fn first cap) w := fun _ _ _ _ => rfl
  have HB := Lib.hid (show Below w.heap.size w ((((w.alloc (.cells #[v] 23)).alloc (.cells #[.int .i64 b] 3)).alloc (.cells #[.int .i64 p] 3)).alloc (.cells #[.slice A n c] 29)) from (((((Below.refl w.heap.size w).alloc (by first | exact Nat.le_refl _ | (simp; done) | (simp; omega)) (.cells #[v] 23)).alloc (by first | exact Nat.le_refl _ | (simp; done) | (simp; omega)) (.cells #[.int .i64 b] 3)).alloc (by first | exact Nat.le_refl _ | (simp; done) | (simp; omega)) (.cells #[.int .i64 p] 3)).alloc (by first | exact Nat.le_refl _ | (simp; done) | (simp; omega)) (.cells #[.slice A n c] 29)))
  have hL := Lib.hid (fun k => looks_none (h _ HB.out) k)
  subst hv
  clear h
  go_enter Try.func9, Try.ntmps9
  go_wp2_with (go_at_call 31; refine (hL.out _).mono ?_; rintro e w' ⟨rfl, rfl⟩)
  go_ret
  exact ⟨rfl, HB.out⟩
theorem read_none {w : World} {q : Option Addr} {v : Value} (hv : v = .pointer q) (h : IsN w v) (b p : Int) : Calls Try.prog 16 #[v, .int .i64 b, .int .i64 p] w fun e w' => e = .returned (.tuple #[.slice none 0 0, .int .i64 2]) ∧ Below w.heap.size w w' := by
  have hmf : ∀ (fn : Fn) (first cap : Array Value) (w : World), (Instr.makeFunc fn first cap).run Try.prog w = .ok (.func fn first cap) w := fun _ _ _ _ => rfl
  have HB := Lib.hid (show Below w.heap.size w (((w.alloc (.cells #[v] 23)).alloc (.cells #[.int .i64 b] 3)).alloc (.cells #[.int .i64 p] 3)) from ((((Below.refl w.heap.size w).alloc (by first | exact Nat.le_refl _ | (simp; done) | (simp; omega)) (.cells #[v] 23)).alloc (by first | exact Nat.le_refl _ | (simp; done) | (simp; omega)) (.cells #[.int .i64 b] 3)).alloc (by first | exact Nat.le_refl _ | (simp; done) | (simp; omega)) (.cells #[.int .i64 p] 3)))
  have hL := Lib.hid (fun k => looks_none (h _ HB.out) k)
  subst hv
  clear h
  go_enter Try.func16, Try.ntmps16
  go_wp2_with (go_at_call 31; refine (hL.out _).mono ?_; rintro e w' ⟨rfl, rfl⟩)
  go_ret2
  exact ⟨rfl, HB.out⟩
theorem spoil_none {w : World} {q : Option Addr} {v : Value} (hv : v = .pointer q) (h : IsN w v) (b p i x : Int) : Calls Try.prog 19 #[v, .int .i64 b, .int .i64 p, .int .i64 i, .int .u8 x] w fun e w' => e = .returned (.int .i64 2) ∧ Below w.heap.size w w' := by
  have hmf : ∀ (fn : Fn) (first cap : Array Value) (w : World), (Instr.makeFunc fn first cap).run Try.prog w = .ok (.func fn first cap) w := fun _ _ _ _ => rfl
  have HB := Lib.hid (show Below w.heap.size w ((((w.alloc (.cells #[v] 23)).alloc (.cells #[.int .i64 b] 3)).alloc (.cells #[.int .i64 p] 3)).alloc (.cells #[.int .i64 i] 3)) from (((((Below.refl w.heap.size w).alloc (by first | exact Nat.le_refl _ | (simp; done) | (simp; omega)) (.cells #[v] 23)).alloc (by first | exact Nat.le_refl _ | (simp; done) | (simp; omega)) (.cells #[.int .i64 b] 3)).alloc (by first | exact Nat.le_refl _ | (simp; done) | (simp; omega)) (.cells #[.int .i64 p] 3)).alloc (by first | exact Nat.le_refl _ | (simp; done) | (simp; omega)) (.cells #[.int .i64 i] 3)))
  have hL := Lib.hid (fun k => looks_none (h _ HB.out) k)
  subst hv
  clear h
  go_enter Try.func19, Try.ntmps19
  go_wp2_with (go_at_call 31; refine (hL.out _).mono ?_; rintro e w' ⟨rfl, rfl⟩)
  go_ret
  exact ⟨rfl, HB.out⟩
end Go.Proofs.Ytandhpnpodkemaa.M
