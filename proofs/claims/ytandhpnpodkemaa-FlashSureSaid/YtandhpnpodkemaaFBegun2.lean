/- begun answers true. -/
import Derived.Test.YtandhpnpodkemaaFBegun
set_option linter.unusedVariables false
set_option linter.unusedSimpArgs false
set_option maxRecDepth 100000
namespace Go.Proofs.Ytandhpnpodkemaa.M
open Go.RowKit Go.Proofs.YtandhpnpodkemaaW.PrintWords Go.Proofs.YtandhpnpodkemaaW.PrintLast

theorem KeepF.below_then {B f g : Nat} {w w1 w2 : World} (h : Below B w w1) (k : KeepF f g w1 w2) (hB : B ≤ w1.heap.size) (hf : B ≤ f) (hg : B ≤ g) : Below B w w2 :=
  ⟨k.os.trans h.os, k.tape.trans h.tape, k.output.trans h.output, Nat.le_trans h.size k.size, fun i hi => (k.block i (Nat.lt_of_lt_of_le hi hB) (by omega) (by omega)).trans (h.block i hi)⟩
theorem bgc3' {w : World} {f g : Nat} (h : IsF w f g bg2) : Calls Try.prog 16 #[.pointer (some ⟨f, 0, none⟩), .int .i64 1, .int .i64 3] w fun e w' => ∃ b c, e = .returned (.tuple #[.slice (some ⟨b, 0, none⟩) 256 c, .int .i64 0]) ∧ (w.heap.size ≤ b ∧ b < w'.heap.size) ∧ (256 ≤ c ∧ w'.cell? ⟨b, 0, none⟩ = some (.int .u8 97) ∧ w'.cell? ⟨b, 1, none⟩ = some (.int .u8 255)) ∧ Below w.heap.size w w' := by
  refine (read_is h 1 3).mono ?_
  rintro e w' ⟨v, rfl, ho, hb⟩
  rw [bg_l1] at ho
  have hl2 : ((97 : Int) :: List.replicate 255 255).length = 256 := by simp
  obtain ⟨b, c, rfl, hb1, hb2, _⟩ := Kd.R_form ho (by rw [hl2]; omega)
  have e0 := (Kd.R_celln (0 : Int) ho 0 (by omega) (by rw [hl2]; omega)).1
  have e1 := (Kd.R_celln (0 : Int) ho 1 (by omega) (by rw [hl2]; omega)).1
  have hc := (Kd.R_reads' ho).2.1
  rw [hl2] at hc
  exact ⟨b, c, by rw [bg_r1, hl2], ⟨hb1, hb2⟩, ⟨hc, by simpa [rdOf] using e0, by simpa [rdOf] using e1⟩, hb⟩
theorem bgcN (w : World) : Calls Try.prog 7 #[.int .i64 2] w fun e w' => e = .returned (.tuple #[.pointer (some ⟨w.heap.size + 1, 0, none⟩), .int .i64 0]) ∧ IsF w' (w.heap.size + 1) w.heap.size bg0 ∧ Below w.heap.size w w' := new_is 2 w (by omega) (by omega)
set_option maxHeartbeats 4000000 in
theorem begun_is (w : World) : Calls Try.prog 8 #[] w fun e w' => e = .returned (.bool true) ∧ Below w.heap.size w w' := by
  have kc := fun (w : World) (C : Array Value) (n c : Nat) => Lib.run_convert_bytes_const (P := Try.prog) w 29 5 C n c Try.underlying29 Try.underlying5
  go_enter Try.func8, Try.ntmps8
  go_wp2_with fail
  refine (bgcN w).mono ?_
  rintro e w1 ⟨rfl, hI0, hb0⟩
  have HI0 := Lib.hid hI0; have HB0 := Lib.hid hb0; have L1 := Lib.hid hI0.flt; clear hI0 hb0
  obtain ⟨fp, hfp⟩ : ∃ fp, fp = w.heap.size + 1 := ⟨_, rfl⟩
  obtain ⟨gp, hgp⟩ : ∃ gp, gp = w.heap.size := ⟨_, rfl⟩
  rw [← hfp] at HI0 ⊢
  rw [← hfp] at L1
  rw [← hgp] at HI0 HB0
  have Hf := Lib.hid hfp; have Hg := Lib.hid hgp; clear hfp hgp
  go_wp2_with fail
  refine (bgc1 (HI0.out.alloc _) _ (Kd.F_mono (F_const _ _ _) (fun k hk => ⟨by have := L1.out; omega, by have := L1.out; have := Hf.out; have := Hg.out; omega⟩))).mono ?_
  rintro e w2 ⟨rfl, hI1, hk1⟩
  have HI1 := Lib.hid hI1; have HK1 := Lib.hid (((KeepF.refl fp gp w1).alloc _).trans hk1); clear hI1 hk1
  go_wp2_with fail
  refine (bgc2 HI1.out).mono ?_
  rintro e w3 ⟨rfl, hI2, hk2⟩
  have HI2 := Lib.hid hI2; have HK2 := Lib.hid (HK1.out.trans hk2); clear hI2 hk2
  go_wp2_with fail
  refine (bgc3' HI2.out).mono ?_
  rintro e w4 ⟨b, c, rfl, ⟨hb1, hb2⟩, ⟨hc, hc0, hc1⟩, hb⟩
  have hbf : b ≠ fp := by have := HI2.out.flt; omega
  have hbg : b ≠ gp := by have := HI2.out.glt; omega
  have HI3 := Lib.hid (HI2.out.below hb); have HK3 := Lib.hid (HK2.out.trans (KeepF.of_below hb))
  have HC0 := Lib.hid hc0; have HC1 := Lib.hid hc1; clear hb hc0 hc1
  go_wp2_with fail
  refine (bgc4 HI3.out).mono ?_
  rintro e w5 ⟨rfl, hI4, hk4⟩
  have HI4 := Lib.hid hI4; have HK4 := Lib.hid hk4; clear hI4 hk4
  go_wp2_with fail
  refine (bgc5 HI4.out).mono ?_
  rintro e w6 ⟨rfl, hI5, hk5⟩
  have HI5 := Lib.hid hI5; have HK5 := Lib.hid (HK4.out.trans hk5); clear hI5 hk5
  go_wp2_with fail
  refine (bgc6 HI5.out).mono ?_
  rintro e w7 ⟨rfl, hI6, hk6⟩
  have HI6 := Lib.hid hI6; have HK6 := Lib.hid (HK5.out.trans hk6); clear hI6 hk6
  go_wp2_with fail
  refine (bgc7 HI6.out).mono ?_
  rintro e w8 ⟨v, rfl, hb⟩
  have HK8 := Lib.hid (HK6.out.trans (KeepF.of_below hb)); clear hb
  have hx0 : w8.cell? ⟨b, 0, none⟩ = some (.int .u8 97) := (HK8.out.cell (p := ⟨b, 0, none⟩) hb2 hbf hbg).trans HC0.out
  have hx1 : w8.cell? ⟨b, 1, none⟩ = some (.int .u8 255) := (HK8.out.cell (p := ⟨b, 1, none⟩) hb2 hbf hbg).trans HC1.out
  go_wp2_with fail
  go_ret
  refine ⟨rfl, ?_⟩
  have h1 := HB0.out
  rw [Hg.out] at h1
  have h2 := KeepF.below_then h1 (HK3.out.trans HK8.out)
  exact h2 h1.size (by have := Hf.out; omega) (by have := Hg.out; omega)
end Go.Proofs.Ytandhpnpodkemaa.M
