/- Contracts of a flash's at, Read and Wear. -/
import Derived.Test.YtandhpnpodkemaaFNew
set_option linter.unusedVariables false
set_option linter.unusedSimpArgs false
set_option maxRecDepth 100000
namespace Go.Proofs.Ytandhpnpodkemaa.M
open Go.RowKit

theorem kdAt_st {b p : Nat} (hp : p < 16) : kdAt (b * 4113 + p * 257) = .i64 := by
  have h1 : (b * 4113 + p * 257) % 4113 = p * 257 := by omega
  unfold kdAt
  rw [h1, if_neg (by omega), if_pos (by omega)]
theorem kdAt_data {b p i : Nat} (hp : p < 16) (hi : i < 256) : kdAt (b * 4113 + p * 257 + 1 + i) = .u8 := by
  have h1 : (b * 4113 + p * 257 + 1 + i) % 4113 = p * 257 + 1 + i := by omega
  unfold kdAt
  rw [h1, if_neg (by omega), if_neg (by omega)]
theorem kdAt_wear (b : Nat) : kdAt (b * 4113 + 4112) = .i64 := by
  have h1 : (b * 4113 + 4112) % 4113 = 4112 := by omega
  unfold kdAt
  rw [if_pos h1]
namespace IsF
variable {w w' : World} {f g : Nat} {fl : Fl}
theorem st (h : IsF w f g fl) {b p : Nat} (hb : b < fl.n) (hp : p < 16) : w.cell? ⟨g, b * 4113 + p * 257, none⟩ = some (.int .i64 (fl.c (b * 4113 + p * 257))) := by
  have := h.gc (i := b * 4113 + p * 257) (by omega)
  rw [kdAt_st hp] at this
  exact this
theorem data (h : IsF w f g fl) {b p i : Nat} (hb : b < fl.n) (hp : p < 16) (hi : i < 256) : w.cell? ⟨g, b * 4113 + p * 257 + 1 + i, none⟩ = some (.int .u8 (fl.c (b * 4113 + p * 257 + 1 + i))) := by
  have := h.gc (i := b * 4113 + p * 257 + 1 + i) (by omega)
  rw [kdAt_data hp hi] at this
  exact this
theorem wear (h : IsF w f g fl) {b : Nat} (hb : b < fl.n) : w.cell? ⟨g, b * 4113 + 4112, none⟩ = some (.int .i64 (fl.c (b * 4113 + 4112))) := by
  have := h.gc (i := b * 4113 + 4112) (by omega)
  rw [kdAt_wear] at this
  exact this
end IsF
def atE (fl : Fl) (b p : Nat) : Int := if fl.c (b * 4113 + p * 257) = 0 then 21 else if fl.c (b * 4113 + p * 257) = 1 then 22 else 0
def atP (fl : Fl) (g b p : Nat) : Value := if atE fl b p = 0 then .pointer (some ⟨g, b * 4113 + p * 257, none⟩) else .pointer none
theorem at_is {w : World} {f g : Nat} {fl : Fl} (h : IsF w f g fl) {b p : Nat} (hb : b < fl.n) (hp : p < 16) :
    Calls Try.prog 45 #[.pointer (some ⟨f, 0, none⟩), .int .i64 (b : Int), .int .i64 (p : Int)] w fun e w' => e = .returned (.tuple #[atP fl g b p, .int .i64 (atE fl b p)]) ∧ w = w' := by
  have h0 := h.c0
  have hs := h.st hb hp
  have hb0 : (0 : Int) ≤ (b : Int) := by omega
  have hb1 : (b : Int) < (fl.n : Int) := by omega
  have hp0 : (0 : Int) ≤ (p : Int) := by omega
  have hp1 : (p : Int) < 16 := by omega
  obtain ⟨s, hss⟩ : ∃ s, fl.c (b * 4113 + p * 257) = s := ⟨_, rfl⟩
  rw [hss] at hs
  obtain ⟨P, HP⟩ : ∃ P, RowKit.Hid (atP fl g b p = P) := ⟨_, Lib.hid rfl⟩
  obtain ⟨E, HE⟩ : ∃ E, RowKit.Hid (atE fl b p = E) := ⟨_, Lib.hid rfl⟩
  rw [HP.out, HE.out]
  by_cases s0 : s = 0
  · subst s0
    have he : atE fl b p = 21 := by unfold atE; rw [if_pos hss]
    have e1 : E = 21 := by rw [← HE.out]; exact he
    have e2 : P = .pointer none := by rw [← HP.out]; unfold atP; rw [if_neg (by rw [he]; decide)]
    subst e1 e2
    clear hss HP HE he
    go_enter Try.func45, Try.ntmps45
    go_wp2
    go_ret2
    exact ⟨rfl, rfl⟩
  · have g0 : (s == 0) = false := beq_eq_false_iff_ne.2 s0
    by_cases s1 : s = 1
    · subst s1
      have he : atE fl b p = 22 := by unfold atE; rw [hss]; rfl
      have e1 : E = 22 := by rw [← HE.out]; exact he
      have e2 : P = .pointer none := by rw [← HP.out]; unfold atP; rw [if_neg (by rw [he]; decide)]
      subst e1 e2
      clear hss HP HE he s0
      go_enter Try.func45, Try.ntmps45
      go_wp2
      go_ret2
      exact ⟨rfl, rfl⟩
    · have g1 : (s == 1) = false := beq_eq_false_iff_ne.2 s1
      have he : atE fl b p = 0 := by unfold atE; rw [hss, if_neg s0, if_neg s1]
      have e1 : E = 0 := by rw [← HE.out]; exact he
      have e2 : P = .pointer (some ⟨g, b * 4113 + p * 257, none⟩) := by rw [← HP.out]; unfold atP; rw [if_pos he]
      subst e1 e2
      clear hss HP HE he s0 s1
      go_enter Try.func45, Try.ntmps45
      go_wp2
      go_ret2
      exact ⟨rfl, rfl⟩
end Go.Proofs.Ytandhpnpodkemaa.M
