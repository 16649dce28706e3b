/- (under way: does not build whole) Contract of begun. -/
import Derived.Test.YtandhpnpodkemaaFBegunPure
import Derived.Lib.SlBytesConst
set_option linter.unusedVariables false
set_option linter.unusedSimpArgs false
set_option maxRecDepth 100000
namespace Go.Proofs.Ytandhpnpodkemaa.M
open Go.RowKit Go.Proofs.YtandhpnpodkemaaW.PrintWords Go.Proofs.YtandhpnpodkemaaW.PrintLast

/-- The letters of a constant are read. -/
theorem C_const (w : World) (x : Int) (z : Nat × Nat) : Kd.C (Kd.int .u8) (w.alloc (.cells #[.int .u8 x] 5 z)) (some ⟨w.heap.size, 0, none⟩) [x].length [x] := by
  refine Kd.C_of_reads (d := (0 : Int)) (h1 := fun _ => rfl) ⟨rfl, by simp, fun _ => ⟨_, rfl, fun j hj => ?_⟩⟩
  obtain rfl : j = 0 := by simpa using hj
  rw [Addr.add_zero']
  show (match (w.heap.push _)[w.heap.size]? with | some (.cells c _ _) => _ | _ => _) = _
  simp
theorem F_const (w : World) (x : Int) (z : Nat × Nat) : Kd.F (Kd.int .u8) (w.alloc (.cells #[.int .u8 x] 5 z)) (fun k => k = w.heap.size) (some ⟨w.heap.size, 0, none⟩) [x].length [x] := by
  intro W' hW
  refine Kd.C_of_reads (d := (0 : Int)) (h1 := fun _ => rfl) ⟨rfl, by simp, fun _ => ⟨_, rfl, fun j hj => ?_⟩⟩
  obtain rfl : j = 0 := by simpa using hj
  rw [Addr.add_zero']
  have h1 := hW w.heap.size rfl (by simp)
  have h2 : (w.alloc (.cells #[.int .u8 x] 5 z)).heap[w.heap.size]? = some (.cells #[.int .u8 x] 5 z) := by
    show (w.heap.push _)[w.heap.size]? = _
    simp
  rw [h2] at h1
  simp [World.cell?, h1]
section
variable {w : World} {f g : Nat}
theorem bgc1 (h : IsF w f g bg0) (A : Option Addr) (hr : Kd.F (Kd.int .u8) w (fun k => k ≠ f ∧ k ≠ g) A [(97 : Int)].length [97]) : Calls Try.prog 9 #[.pointer (some ⟨f, 0, none⟩), .int .i64 1, .int .i64 3, .slice A 1 1] w fun e w' => e = .returned (.int .i64 0) ∧ IsF w' f g bg1 ∧ KeepF f g w w' := by
  have h2 := program_is h bg_u0 1 3 A 1 [97] hr
  rw [show progE bg0 1 3 [(97 : Int)].length = 0 from bg_p1] at h2
  exact h2
theorem bgc2 (h : IsF w f g bg1) : Calls Try.prog 9 #[.pointer (some ⟨f, 0, none⟩), .int .i64 1, .int .i64 3, .slice none 0 0] w fun e w' => e = .returned (.int .i64 20) ∧ IsF w' f g bg2 ∧ KeepF f g w w' := by
  have h2 := program_is h bg_u1 1 3 none 0 [] (Kd.F_nil _ _ _)
  rw [show progE bg1 1 3 ([] : List Int).length = 20 from bg_p2] at h2
  exact h2
theorem bgc3 (h : IsF w f g bg2) : Calls Try.prog 16 #[.pointer (some ⟨f, 0, none⟩), .int .i64 1, .int .i64 3] w fun e w' => ∃ A c, e = .returned (.tuple #[.slice A 256 c, .int .i64 0]) ∧ Kd.C (Kd.int .u8) w' A 256 (97 :: List.replicate 255 255) ∧ Below w.heap.size w w' := by
  refine (read_is h 1 3).mono ?_
  rintro e w' ⟨v, rfl, ho, hb⟩
  obtain ⟨A, c, rfl, hc, hr⟩ := Kd.R_reads ho
  rw [bg_l1] at hr
  have hl : (readL bg2 1 3).length = 256 := by rw [bg_l1]; simp
  have hl2 : ((97 : Int) :: List.replicate 255 255).length = 256 := by simp
  rw [hl2] at hr
  exact ⟨A, c, by rw [bg_r1, hl], hr, hb⟩
theorem bgc4 (h : IsF w f g bg2) : Calls Try.prog 13 #[.pointer (some ⟨f, 0, none⟩), .int .i64 1, .int .i64 1] w fun e w' => e = .returned (.int .i64 0) ∧ IsF w' f g bg3 ∧ KeepF f g w w' := by
  have h2 := setfuse_is h 1 1
  rw [bg_f1] at h2
  exact h2
theorem bgc5 (h : IsF w f g bg3) : Calls Try.prog 11 #[.pointer (some ⟨f, 0, none⟩), .int .i64 1] w fun e w' => e = .returned (.int .i64 7) ∧ IsF w' f g bg4 ∧ KeepF f g w w' := by
  have h2 := erase_is h bg_u3 1
  rw [bg_e1] at h2
  exact h2
theorem bgc6 (h : IsF w f g bg4) : Calls Try.prog 15 #[.pointer (some ⟨f, 0, none⟩)] w fun e w' => e = .returned (.int .i64 0) ∧ IsF w' f g bg5 ∧ KeepF f g w w' := by
  have h2 := restart_is h
  rw [bg_s1] at h2
  exact h2
theorem bgc7 (h : IsF w f g bg5) : Calls Try.prog 16 #[.pointer (some ⟨f, 0, none⟩), .int .i64 1, .int .i64 0] w fun e w' => ∃ v, e = .returned (.tuple #[v, .int .i64 22]) ∧ Below w.heap.size w w' := by
  refine (read_is h 1 0).mono ?_
  rintro e w' ⟨v, rfl, ho, hb⟩
  exact ⟨v, by rw [bg_r2], hb⟩
end
end Go.Proofs.Ytandhpnpodkemaa.M
