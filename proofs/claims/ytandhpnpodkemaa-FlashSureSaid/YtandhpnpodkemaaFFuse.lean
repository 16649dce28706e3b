/- Contracts of a flash's SetFuse, Crash and change. -/
import Derived.Test.YtandhpnpodkemaaFLooks
set_option linter.unusedVariables false
set_option linter.unusedSimpArgs false
namespace Go.Proofs.Ytandhpnpodkemaa.M
open Go.RowKit

def keepV (k : Int) : Int := Int.tmod (Int.tmod k 3 + 3) 3
def setFuseE (fl : Fl) (n : Int) : Int := looksE fl (decide (1 ≤ n))
def setFuseF (fl : Fl) (n k : Int) : Fl := if setFuseE fl n = 0 then { fl with fuse := n, keep := keepV k } else fl
theorem setfuse1 (w : World) (b : Nat) (n : Int) (h : w.cell? ⟨b, 0, none⟩ = some (.int .i64 n)) : Calls Try.prog 42 #[.pointer (some ⟨b, 0, none⟩)] w fun e w' => e = .returned (.bool (decide (1 ≤ n))) ∧ w = w' := by
  obtain ⟨q, hq⟩ : ∃ q, decide (1 ≤ n) = q := ⟨_, rfl⟩
  rw [hq]
  go_enter Try.func42, Try.ntmps42
  go_wp2
  go_ret
  exact ⟨rfl, rfl⟩
theorem setfuse_is {w : World} {f g : Nat} {fl : Fl} (h : IsF w f g fl) (n k : Int) :
    Calls Try.prog 13 #[.pointer (some ⟨f, 0, none⟩), .int .i64 n, .int .i64 k] w fun e w' => e = .returned (.int .i64 (setFuseE fl n)) ∧ IsF w' f g (setFuseF fl n k) ∧ KeepF f g w w' := by
  have hmf : ∀ (fn : Fn) (first cap : Array Value) (w : World), (Instr.makeFunc fn first cap).run Try.prog w = .ok (.func fn first cap) w := fun _ _ _ _ => rfl
  have HI := Lib.hid h
  have h2 := h.flt
  have hL := Lib.hid (looks_is (h.alloc (.cells #[.int .i64 n] 3)) 42 #[.pointer (some ⟨w.heap.size, 0, none⟩)] (decide (1 ≤ n)) (enter_any _ _ _ Try.func42 rfl (by kernel_rfl)) (setfuse1 _ _ n (by simp [go_sem])))
  obtain ⟨er, her⟩ : ∃ er, setFuseE fl n = er := ⟨_, rfl⟩
  obtain ⟨R, HR⟩ : ∃ R, RowKit.Hid (setFuseF fl n k = R) := ⟨_, Lib.hid rfl⟩
  rw [her, HR.out]
  have HER := Lib.hid her
  unfold setFuseE at her
  rw [her] at hL
  have hne : f ≠ w.heap.size := by omega
  have e1 := h.c1
  have e2 := h.c2
  have z1 := h.z 1
  have z2 := h.z 2
  clear h her
  by_cases hz : er = 0
  · subst hz
    have HF := Lib.hid (show { fl with fuse := n, keep := keepV k } = R by rw [← HR.out]; unfold setFuseF; rw [if_pos HER.out])
    have hk1 := Int.tmod_lt_of_pos k (show (0 : Int) < 3 by decide)
    have hk2 := Int.lt_tmod_of_pos k (show (0 : Int) < 3 by decide)
    have hw : IntKind.i64.wrap (Int.tmod k 3 + 3) = Int.tmod k 3 + 3 := by rw [IntKind.wrap_i64]; omega
    obtain ⟨kv, hkv⟩ : ∃ kv, Int.tmod (Int.tmod k 3 + 3) 3 = kv := ⟨_, rfl⟩
    have HKV := Lib.hid (show keepV k = kv from hkv)
    clear hk1 hk2
    go_enter Try.func13, Try.ntmps13
    go_wp2_with (go_at_call 31; refine hL.out.mono ?_; rintro e w' ⟨rfl, rfl⟩)
    go_ret
    refine ⟨rfl, ?_, (((KeepF.refl _ _ _).setF _ _).setF _ _).alloc _⟩
    rw [← HF.out, HKV.out]
    exact ((HI.out.setFuse n).setKeep kv).alloc _
  · have HF := Lib.hid (show fl = R by rw [← HR.out]; unfold setFuseF; rw [if_neg (by rw [HER.out]; exact hz)])
    have hne2 : (er != 0) = true := bne_iff_ne.2 hz
    clear hz
    go_enter Try.func13, Try.ntmps13
    go_wp2_with (go_at_call 31; refine hL.out.mono ?_; rintro e w' ⟨rfl, rfl⟩)
    go_ret
    refine ⟨rfl, ?_, (KeepF.refl _ _ _).alloc _⟩
    rw [← HF.out]
    exact HI.out.alloc _

def crashE (fl : Fl) : Int := looksE fl true
def crashF (fl : Fl) : Fl := if crashE fl = 0 then { fl with down := true, fuse := 0 } else fl
theorem crash1 (w : World) : Calls Try.prog 43 #[] w fun e w' => e = .returned (.bool true) ∧ w = w' := by
  go_enter Try.func43, Try.ntmps43
  go_wp2
  go_ret
  exact ⟨rfl, rfl⟩
theorem crash_is {w : World} {f g : Nat} {fl : Fl} (h : IsF w f g fl) :
    Calls Try.prog 14 #[.pointer (some ⟨f, 0, none⟩)] w fun e w' => e = .returned (.int .i64 (crashE fl)) ∧ IsF w' f g (crashF fl) ∧ KeepF f g w w' := by
  have HI := Lib.hid h
  have hL := Lib.hid (looks_is h 43 #[] true (enter_any _ _ _ Try.func43 rfl (by kernel_rfl)) (crash1 _))
  obtain ⟨er, her⟩ : ∃ er, crashE fl = er := ⟨_, rfl⟩
  obtain ⟨R, HR⟩ : ∃ R, RowKit.Hid (crashF fl = R) := ⟨_, Lib.hid rfl⟩
  rw [her, HR.out]
  have HER := Lib.hid her
  unfold crashE at her
  rw [her] at hL
  have e1 := h.c1
  have e3 := h.c3
  have z1 := h.z 1
  have z3 := h.z 3
  clear h her
  by_cases hz : er = 0
  · subst hz
    have HF := Lib.hid (show { fl with down := true, fuse := 0 } = R by rw [← HR.out]; unfold crashF; rw [if_pos HER.out])
    go_enter Try.func14, Try.ntmps14
    go_wp2_with (go_at_call 31; refine hL.out.mono ?_; rintro e w' ⟨rfl, rfl⟩)
    go_ret
    refine ⟨rfl, ?_, ((KeepF.refl _ _ _).setF _ _).setF _ _⟩
    rw [← HF.out]
    exact (HI.out.setDown true).setFuse 0
  · have HF := Lib.hid (show fl = R by rw [← HR.out]; unfold crashF; rw [if_neg (by rw [HER.out]; exact hz)])
    have hne2 : (er != 0) = true := bne_iff_ne.2 hz
    clear hz
    go_enter Try.func14, Try.ntmps14
    go_wp2_with (go_at_call 31; refine hL.out.mono ?_; rintro e w' ⟨rfl, rfl⟩)
    go_ret
    refine ⟨rfl, ?_, KeepF.refl _ _ _⟩
    rw [← HF.out]
    exact HI.out
end Go.Proofs.Ytandhpnpodkemaa.M
