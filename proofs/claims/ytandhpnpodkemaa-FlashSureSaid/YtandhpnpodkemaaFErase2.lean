/- Contract of a flash's Erase. -/
import Derived.Test.YtandhpnpodkemaaFErase
import Derived.Deep.RegionHeld3
set_option linter.unusedVariables false
set_option linter.unusedSimpArgs false
set_option maxRecDepth 100000
namespace Go.Proofs.Ytandhpnpodkemaa.M
open Go.RowKit Go.Proofs.YtandhpnpodkemaaW.PrintWords Go.Proofs.YtandhpnpodkemaaW.PrintLast

def isB (fl : Fl) (b : Int) : Bool := decide (0 ≤ b) && decide (b < (fl.n : Int))
def eraseE (fl : Fl) (b : Int) : Int := if looksE fl (isB fl b) = 0 then changeE fl else looksE fl (isB fl b)
def eraseF (fl : Fl) (b : Int) : Fl := if looksE fl (isB fl b) = 0 then changeF fl (eraseC fl.c b.toNat 0 16) (eraseC fl.c b.toNat 1 16) else fl
theorem isB_of {fl : Fl} {b : Int} (h : looksE fl (isB fl b) = 0) : 0 ≤ b ∧ b < (fl.n : Int) := by
  unfold looksE at h
  split at h
  · omega
  · split at h
    · rename_i h2
      unfold isB at h2
      simp only [Bool.and_eq_true, decide_eq_true_eq] at h2
      exact h2
    · omega
set_option maxHeartbeats 1000000 in
theorem erase_is {w : World} {f g : Nat} {fl : Fl} (h : IsF w f g fl) (hfu : 0 ≤ fl.fuse ∧ fl.fuse ≤ 9223372036854775807) (b : Int) :
    Calls Try.prog 11 #[.pointer (some ⟨f, 0, none⟩), .int .i64 b] w fun e w' => e = .returned (.int .i64 (eraseE fl b)) ∧ IsF w' f g (eraseF fl b) ∧ KeepF f g w w' := by
  have hmf : ∀ (fn : Fn) (first cap : Array Value) (w : World), (Instr.makeFunc fn first cap).run Try.prog w = .ok (.func fn first cap) w := fun _ _ _ _ => rfl
  have hflt := h.flt
  have hglt := h.glt
  have hI2 := (h.alloc (.cells #[.pointer (some ⟨f, 0, none⟩)] 23)).alloc (.cells #[.int .i64 b] 3)
  have hk2 := ((KeepF.refl f g w).alloc (.cells #[.pointer (some ⟨f, 0, none⟩)] 23)).alloc (.cells #[.int .i64 b] 3)
  have HI2 := Lib.hid hI2
  have HK2 := Lib.hid hk2
  have hL := Lib.hid (looks_is hI2 38 #[.pointer (some ⟨w.heap.size, 0, none⟩), .pointer (some ⟨w.heap.size + 1, 0, none⟩)] (isB fl b) (enter_any _ _ _ Try.func38 rfl (by kernel_rfl)) (erase1 hI2 w.heap.size b (by simp [go_sem]) (by simp [go_sem])))
  obtain ⟨E, HE⟩ : ∃ E, RowKit.Hid (eraseE fl b = E) := ⟨_, Lib.hid rfl⟩
  obtain ⟨R, HR⟩ : ∃ R, RowKit.Hid (eraseF fl b = R) := ⟨_, Lib.hid rfl⟩
  rw [HE.out, HR.out]
  by_cases hz : looksE fl (isB fl b) = 0
  · obtain ⟨b0, b1⟩ := isB_of hz
    obtain ⟨b, rfl⟩ := Int.eq_ofNat_of_zero_le b0
    have hb : b < fl.n := by omega
    have HEE := Lib.hid (show E = changeE fl by rw [← HE.out]; unfold eraseE; rw [if_pos hz])
    have HRR := Lib.hid (show R = changeF fl (eraseC fl.c b 0 16) (eraseC fl.c b 1 16) by rw [← HR.out]; unfold eraseF; rw [if_pos hz]; simp)
    rw [HEE.out, HRR.out]
    rw [hz] at hL
    have HCA := Lib.hid (change_is (w := (((((w.alloc (.cells #[.pointer (some ⟨f, 0, none⟩)] 23)).alloc (.cells #[.int .i64 (b : Int)] 3)).alloc (.cells #[.int .i64 0] 3)).alloc (.cells #[.int .i64 1] 3)).drew)) (((hI2.alloc (.cells #[.int .i64 0] 3)).alloc (.cells #[.int .i64 1] 3)).drew) hfu 40 40 #[.pointer (some ⟨w.heap.size, 0, none⟩), .pointer (some ⟨w.heap.size + 1, 0, none⟩), .pointer (some ⟨w.heap.size + 1 + 1, 0, none⟩)] #[.pointer (some ⟨w.heap.size, 0, none⟩), .pointer (some ⟨w.heap.size + 1, 0, none⟩), .pointer (some ⟨w.heap.size + 1 + 1 + 1, 0, none⟩)] (eraseC fl.c b 0 16) (eraseC fl.c b 1 16) (enter_any _ _ _ Try.func40 rfl (by kernel_rfl)) (enter_any _ _ _ Try.func40 rfl (by kernel_rfl))
      (erase3 0 hb (by simp [go_sem]) (by simp [go_sem]) (by simp [go_sem]) ⟨by simp [go_sem]; try omega, by omega, by omega⟩ ⟨by simp [go_sem]; try omega, by omega, by omega⟩ ⟨by simp [go_sem]; try omega, by omega, by omega⟩)
      (erase3 1 hb (by simp [go_sem]) (by simp [go_sem]) (by simp [go_sem]) ⟨by simp [go_sem]; try omega, by omega, by omega⟩ ⟨by simp [go_sem]; try omega, by omega, by omega⟩ ⟨by simp [go_sem]; try omega, by omega, by omega⟩))
    have HCB := Lib.hid (change_is (w := (((((w.alloc (.cells #[.pointer (some ⟨f, 0, none⟩)] 23)).alloc (.cells #[.int .i64 (b : Int)] 3)).alloc (.cells #[.int .i64 1] 3)).alloc (.cells #[.int .i64 0] 3)).drew)) (((hI2.alloc (.cells #[.int .i64 1] 3)).alloc (.cells #[.int .i64 0] 3)).drew) hfu 40 40 #[.pointer (some ⟨w.heap.size, 0, none⟩), .pointer (some ⟨w.heap.size + 1, 0, none⟩), .pointer (some ⟨w.heap.size + 1 + 1 + 1, 0, none⟩)] #[.pointer (some ⟨w.heap.size, 0, none⟩), .pointer (some ⟨w.heap.size + 1, 0, none⟩), .pointer (some ⟨w.heap.size + 1 + 1, 0, none⟩)] (eraseC fl.c b 0 16) (eraseC fl.c b 1 16) (enter_any _ _ _ Try.func40 rfl (by kernel_rfl)) (enter_any _ _ _ Try.func40 rfl (by kernel_rfl))
      (erase3 0 hb (by simp [go_sem]) (by simp [go_sem]) (by simp [go_sem]) ⟨by simp [go_sem]; try omega, by omega, by omega⟩ ⟨by simp [go_sem]; try omega, by omega, by omega⟩ ⟨by simp [go_sem]; try omega, by omega, by omega⟩)
      (erase3 1 hb (by simp [go_sem]) (by simp [go_sem]) (by simp [go_sem]) ⟨by simp [go_sem]; try omega, by omega, by omega⟩ ⟨by simp [go_sem]; try omega, by omega, by omega⟩ ⟨by simp [go_sem]; try omega, by omega, by omega⟩))
    have HKA := Lib.hid (((hk2.alloc (.cells #[.int .i64 0] 3)).alloc (.cells #[.int .i64 1] 3)).drew)
    have HKB := Lib.hid (((hk2.alloc (.cells #[.int .i64 1] 3)).alloc (.cells #[.int .i64 0] 3)).drew)
    clear hz HE HR HEE HRR h hI2 hk2 hfu b0 b1 hb
    go_enter Try.func11, Try.ntmps11
    go_wp2_with (go_at_call 31; refine hL.out.mono ?_; rintro e w' ⟨rfl, rfl⟩)
    go_region_held3 (fun w' => w'.cell? ⟨w.heap.size, 0, none⟩ = some (.pointer (some ⟨f, 0, none⟩))) (go_keep) (first
      | (go_at_call 39; refine (erase2 _ _ _ _).mono ?_; rintro e w' ⟨rfl, rfl⟩)
      | (go_at_call 35; first
          | (refine HCA.out.mono ?_; rintro e w' ⟨rfl, hI', hK'⟩; have qh : w'.cell? ⟨w.heap.size, 0, none⟩ = some (.pointer (some ⟨f, 0, none⟩)) := (hK'.cell (by simp [go_sem]; try omega) (by show w.heap.size ≠ f; omega) (by show w.heap.size ≠ g; omega)).trans (by simp [go_sem]); have HI' := Lib.hid hI'; have HK' := Lib.hid (HKA.out.trans hK'); clear hI' hK')
          | (refine HCB.out.mono ?_; rintro e w' ⟨rfl, hI', hK'⟩; have qh : w'.cell? ⟨w.heap.size, 0, none⟩ = some (.pointer (some ⟨f, 0, none⟩)) := (hK'.cell (by simp [go_sem]; try omega) (by show w.heap.size ≠ f; omega) (by show w.heap.size ≠ g; omega)).trans (by simp [go_sem]); have HI' := Lib.hid hI'; have HK' := Lib.hid (HKB.out.trans hK'); clear hI' hK')))
    all_goals
      go_wp2
      go_ret
      exact ⟨rfl, HI'.out, HK'.out⟩
  · obtain ⟨x, hx⟩ : ∃ x, looksE fl (isB fl b) = x := ⟨_, rfl⟩
    have HEE := Lib.hid (show E = x by rw [← HE.out]; unfold eraseE; rw [if_neg hz, hx])
    have HRR := Lib.hid (show R = fl by rw [← HR.out]; unfold eraseF; rw [if_neg hz])
    rw [HEE.out, HRR.out]
    rw [hx] at hL hz
    have hne : (x != 0) = true := bne_iff_ne.2 hz
    clear hz hx HE HR HEE HRR h hI2 hk2 hfu
    go_enter Try.func11, Try.ntmps11
    go_wp2_with (go_at_call 31; refine hL.out.mono ?_; rintro e w' ⟨rfl, rfl⟩)
    go_ret
    exact ⟨rfl, HI2.out, HK2.out⟩
end Go.Proofs.Ytandhpnpodkemaa.M
