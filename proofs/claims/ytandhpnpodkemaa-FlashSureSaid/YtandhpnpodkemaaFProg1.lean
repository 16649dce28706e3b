/- Program's first and third inner functions; Wear; what looks, SetFuse, Crash, Read say of a flash that no call made. -/
import Derived.Test.YtandhpnpodkemaaFRead2
set_option linter.unusedVariables false
set_option linter.unusedSimpArgs false
set_option maxRecDepth 100000
namespace Go.Proofs.Ytandhpnpodkemaa.M
open Go.RowKit Go.Proofs.YtandhpnpodkemaaW.PrintWords

def okP (fl : Fl) (b p : Int) (n : Nat) : Bool := okAt fl b p && decide ((n : Int) ≤ 256)
theorem prog1 {w : World} {f g : Nat} {fl : Fl} (h : IsF w f g fl) (B : Nat) (b p : Int) (A : Option Addr) (n c : Nat) (h0 : w.cell? ⟨B, 0, none⟩ = some (.pointer (some ⟨f, 0, none⟩))) (h1 : w.cell? ⟨B + 1, 0, none⟩ = some (.int .i64 b)) (h2 : w.cell? ⟨B + 1 + 1, 0, none⟩ = some (.int .i64 p)) (h3 : w.cell? ⟨B + 1 + 1 + 1, 0, none⟩ = some (.slice A n c)) :
    Calls Try.prog 32 #[.pointer (some ⟨B, 0, none⟩), .pointer (some ⟨B + 1, 0, none⟩), .pointer (some ⟨B + 1 + 1, 0, none⟩), .pointer (some ⟨B + 1 + 1 + 1, 0, none⟩)] w fun e w' => e = .returned (.bool (okP fl b p n)) ∧ w = w' := by
  have HI := Lib.hid (is_calls h b)
  have HP := Lib.hid (place_calls p w)
  obtain ⟨r, hr⟩ : ∃ r, RowKit.Hid (okP fl b p n = r) := ⟨_, Lib.hid rfl⟩
  rw [hr.out]
  cases hq : (decide (0 ≤ b) && decide (b < (fl.n : Int))) with
  | true =>
    rw [hq] at HI
    cases hs : (decide (0 ≤ p) && decide (p < 16)) with
    | true =>
      rw [hs] at HP
      obtain ⟨t, ht⟩ : ∃ t, decide ((n : Int) ≤ 256) = t := ⟨_, rfl⟩
      have HRS := Lib.hid (show t = r by rw [← hr.out]; unfold okP okAt; rw [hq, hs, ht]; rfl)
      clear hq hs h
      go_enter Try.func32, Try.ntmps32
      go_wp2_with (first | (go_at_call 33; refine HI.out.mono ?_; rintro e w' ⟨rfl, rfl⟩) | (go_at_call 34; refine HP.out.mono ?_; rintro e w' ⟨rfl, rfl⟩))
      go_ret
      exact ⟨by rw [← HRS.out]; rfl, rfl⟩
    | false =>
      rw [hs] at HP
      have HRS := Lib.hid (show false = r by rw [← hr.out]; unfold okP okAt; rw [hq, hs]; rfl)
      clear hq hs h
      go_enter Try.func32, Try.ntmps32
      go_wp2_with (first | (go_at_call 33; refine HI.out.mono ?_; rintro e w' ⟨rfl, rfl⟩) | (go_at_call 34; refine HP.out.mono ?_; rintro e w' ⟨rfl, rfl⟩))
      go_ret
      exact ⟨by rw [← HRS.out]; rfl, rfl⟩
  | false =>
    rw [hq] at HI
    have HRS := Lib.hid (show false = r by rw [← hr.out]; unfold okP okAt; rw [hq]; rfl)
    clear hq h
    go_enter Try.func32, Try.ntmps32
    go_wp2_with (first | (go_at_call 33; refine HI.out.mono ?_; rintro e w' ⟨rfl, rfl⟩) | (go_at_call 34; refine HP.out.mono ?_; rintro e w' ⟨rfl, rfl⟩))
    go_ret
    exact ⟨by rw [← HRS.out]; rfl, rfl⟩
/-- The page is torn. -/
theorem prog3 {w : World} {f g : Nat} {fl : Fl} {b p X : Nat} (hb : b < fl.n) (hp : p < 16) (hX : w.cell? ⟨X, 0, none⟩ = some (.pointer (some ⟨g, b * 4113 + p * 257, none⟩))) (hXl : X < w.heap.size) (hXf : X ≠ f) (hXg : X ≠ g) :
    Makes w f g fl 37 #[.pointer (some ⟨X, 0, none⟩)] (updC fl.c (b * 4113 + p * 257) 1) := by
  intro w' fl' hk hI hc hn
  have x0 : w'.cell? ⟨X, 0, none⟩ = some (.pointer (some ⟨g, b * 4113 + p * 257, none⟩)) := (hk.cell hXl hXf hXg).trans hX
  have hs := hI.st (b := b) (p := p) (by omega) hp
  have hz := hI.gz (b * 4113 + p * 257)
  have hput := Lib.hid (hI.put (i := b * 4113 + p * 257) (by omega) 1)
  rw [kdAt_st hp, hc] at hput
  obtain ⟨q, hq⟩ : ∃ q, b * 4113 + p * 257 = q := ⟨_, rfl⟩
  rw [hq] at x0 hs hz hput ⊢
  clear hX hk hI hc hn hq hb hp
  go_enter Try.func37, Try.ntmps37
  go_wp2
  go_end0
  exact ⟨rfl, hput.out, (KeepF.refl _ _ _).setG _ _⟩
end Go.Proofs.Ytandhpnpodkemaa.M
