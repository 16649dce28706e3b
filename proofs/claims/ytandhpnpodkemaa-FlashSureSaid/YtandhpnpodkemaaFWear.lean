/- Contracts of a flash's Wear, of Erase's first two inner functions, and of Program, Erase, SetFuse, Crash, Read, Wear of a flash that no call made. -/
import Derived.Test.YtandhpnpodkemaaFProgram
set_option linter.unusedVariables false
set_option linter.unusedSimpArgs false
set_option maxRecDepth 100000
namespace Go.Proofs.Ytandhpnpodkemaa.M
open Go.RowKit Go.Proofs.YtandhpnpodkemaaW.PrintWords

def wearV (fl : Fl) (b : Int) : Int := if 0 ≤ b ∧ b < (fl.n : Int) then fl.c (b.toNat * 4113 + 4112) else 0
theorem wear_is {w : World} {f g : Nat} {fl : Fl} (h : IsF w f g fl) (b : Int) : Calls Try.prog 21 #[.pointer (some ⟨f, 0, none⟩), .int .i64 b] w fun e w' => e = .returned (.int .i64 (wearV fl b)) ∧ w = w' := by
  have HN := Lib.hid (none_is h)
  have HI := Lib.hid (is_calls h b)
  obtain ⟨E, HE⟩ : ∃ E, RowKit.Hid (wearV fl b = E) := ⟨_, Lib.hid rfl⟩
  rw [HE.out]
  by_cases hb : 0 ≤ b ∧ b < (fl.n : Int)
  · obtain ⟨b0, b1⟩ := hb
    have hq : (decide (0 ≤ b) && decide (b < (fl.n : Int))) = true := by rw [decide_eq_true b0, decide_eq_true b1]; rfl
    rw [hq] at HI
    obtain ⟨b, rfl⟩ := Int.eq_ofNat_of_zero_le b0
    have e0 := h.c0
    have ew := h.wear (b := b) (by omega)
    have HEE := Lib.hid (show E = fl.c (b * 4113 + 4112) by rw [← HE.out]; unfold wearV; rw [if_pos ⟨b0, b1⟩]; simp)
    rw [HEE.out]
    clear h hq HE HEE
    go_enter Try.func21, Try.ntmps21
    go_wp2_with (first | (go_at_call 41; refine HN.out.mono ?_; rintro e w' ⟨rfl, rfl⟩) | (go_at_call 33; refine HI.out.mono ?_; rintro e w' ⟨rfl, rfl⟩))
    go_ret
    exact ⟨rfl, rfl⟩
  · have hq : (decide (0 ≤ b) && decide (b < (fl.n : Int))) = false := by
      by_cases b0 : 0 ≤ b
      · rw [decide_eq_true b0, decide_eq_false (fun b1 => hb ⟨b0, b1⟩)]; rfl
      · rw [decide_eq_false b0]; rfl
    rw [hq] at HI
    have HEE := Lib.hid (show E = 0 by rw [← HE.out]; unfold wearV; rw [if_neg hb])
    rw [HEE.out]
    clear h hq HE HEE hb
    go_enter Try.func21, Try.ntmps21
    go_wp2_with (first | (go_at_call 41; refine HN.out.mono ?_; rintro e w' ⟨rfl, rfl⟩) | (go_at_call 33; refine HI.out.mono ?_; rintro e w' ⟨rfl, rfl⟩))
    go_ret
    exact ⟨rfl, rfl⟩
theorem erase1 {w : World} {f g : Nat} {fl : Fl} (h : IsF w f g fl) (B : Nat) (b : Int) (h0 : w.cell? ⟨B, 0, none⟩ = some (.pointer (some ⟨f, 0, none⟩))) (h1 : w.cell? ⟨B + 1, 0, none⟩ = some (.int .i64 b)) :
    Calls Try.prog 38 #[.pointer (some ⟨B, 0, none⟩), .pointer (some ⟨B + 1, 0, none⟩)] w fun e w' => e = .returned (.bool (decide (0 ≤ b) && decide (b < (fl.n : Int)))) ∧ w = w' := by
  have HI := Lib.hid (is_calls h b)
  obtain ⟨r, hr⟩ : ∃ r, (decide (0 ≤ b) && decide (b < (fl.n : Int))) = r := ⟨_, rfl⟩
  rw [hr] at HI ⊢
  clear h hr
  go_enter Try.func38, Try.ntmps38
  go_wp2_with (go_at_call 33; refine HI.out.mono ?_; rintro e w' ⟨rfl, rfl⟩)
  go_ret
  exact ⟨rfl, rfl⟩
theorem erase2 (s : Int) (F B : Value) (w : World) : Calls Try.prog 39 #[.int .i64 s, F, B] w fun e w' => e = .returned (.func (.func 40) #[] #[F, B, .pointer (some ⟨w.heap.size, 0, none⟩)]) ∧ w' = w.alloc (.cells #[.int .i64 s] 3) := by
  have hmf : ∀ (fn : Fn) (first cap : Array Value) (w : World), (Instr.makeFunc fn first cap).run Try.prog w = .ok (.func fn first cap) w := fun _ _ _ _ => rfl
  go_enter Try.func39, Try.ntmps39
  go_wp2
  go_ret
  exact ⟨rfl, rfl⟩
end Go.Proofs.Ytandhpnpodkemaa.M
