/- Contract of a flash's Spoil. -/
import Derived.Test.YtandhpnpodkemaaFErase2
set_option linter.unusedVariables false
set_option linter.unusedSimpArgs false
set_option maxRecDepth 100000
namespace Go.Proofs.Ytandhpnpodkemaa.M
open Go.RowKit Go.Proofs.YtandhpnpodkemaaW.PrintWords Go.Proofs.YtandhpnpodkemaaW.PrintLast

def okS (fl : Fl) (b p i : Int) : Bool := okAt fl b p && (decide (0 ≤ i) && decide (i < 256))
theorem spoil1 {w : World} {f g : Nat} {fl : Fl} (h : IsF w f g fl) (B : Nat) (b p i : Int) (h0 : w.cell? ⟨B, 0, none⟩ = some (.pointer (some ⟨f, 0, none⟩))) (h1 : w.cell? ⟨B + 1, 0, none⟩ = some (.int .i64 b)) (h2 : w.cell? ⟨B + 1 + 1, 0, none⟩ = some (.int .i64 p)) (h3 : w.cell? ⟨B + 1 + 1 + 1, 0, none⟩ = some (.int .i64 i)) :
    Calls Try.prog 47 #[.pointer (some ⟨B, 0, none⟩), .pointer (some ⟨B + 1, 0, none⟩), .pointer (some ⟨B + 1 + 1, 0, none⟩), .pointer (some ⟨B + 1 + 1 + 1, 0, none⟩)] w fun e w' => e = .returned (.bool (okS fl b p i)) ∧ w = w' := by
  have HI := Lib.hid (is_calls h b)
  have HP := Lib.hid (place_calls p w)
  obtain ⟨r, hr⟩ : ∃ r, RowKit.Hid (okS fl b p i = r) := ⟨_, Lib.hid rfl⟩
  rw [hr.out]
  clear h
  obtain ⟨x, hx⟩ : ∃ x, (decide (0 ≤ b) && decide (b < (fl.n : Int))) = x := ⟨_, rfl⟩
  obtain ⟨y, hy⟩ : ∃ y, (decide (0 ≤ p) && decide (p < 16)) = y := ⟨_, rfl⟩
  obtain ⟨s, hs⟩ : ∃ s, decide (0 ≤ i) = s := ⟨_, rfl⟩
  obtain ⟨t, ht⟩ : ∃ t, decide (i < 256) = t := ⟨_, rfl⟩
  have HRS := Lib.hid (show ((x && y) && (s && t)) = r by rw [← hr.out]; unfold okS okAt; rw [hx, hy, hs, ht])
  rw [hx] at HI
  rw [hy] at HP
  clear hx hy
  cases x <;> cases y <;> cases s <;> cases t <;> clear hr
  all_goals
    go_enter Try.func47, Try.ntmps47
    go_wp2_with (first | (go_at_call 33; refine HI.out.mono ?_; rintro e w' ⟨rfl, rfl⟩) | (go_at_call 34; refine HP.out.mono ?_; rintro e w' ⟨rfl, rfl⟩))
    go_ret
    exact ⟨by rw [← HRS.out]; rfl, rfl⟩

def spoilE (fl : Fl) (b p i : Int) : Int := if looksE fl (okS fl b p i) = 0 then atE fl b.toNat p.toNat else looksE fl (okS fl b p i)
def spoilF (fl : Fl) (b p i x : Int) : Fl :=
  if spoilE fl b p i = 0 then { fl with c := updC fl.c (b.toNat * 4113 + p.toNat * 257 + 1 + i.toNat) (Go.bits .xor .u8 (fl.c (b.toNat * 4113 + p.toNat * 257 + 1 + i.toNat)) x) } else fl
theorem okS_of {fl : Fl} {b p i : Int} (h : looksE fl (okS fl b p i) = 0) : 0 ≤ b ∧ b < (fl.n : Int) ∧ 0 ≤ p ∧ p < 16 ∧ 0 ≤ i ∧ i < 256 := by
  unfold looksE at h
  split at h
  · omega
  · split at h
    · rename_i h2
      unfold okS okAt at h2
      simp only [Bool.and_eq_true, decide_eq_true_eq] at h2
      exact ⟨h2.1.1.1, h2.1.1.2, h2.1.2.1, h2.1.2.2, h2.2.1, h2.2.2⟩
    · omega
set_option maxHeartbeats 1000000 in
theorem spoil_is {w : World} {f g : Nat} {fl : Fl} (h : IsF w f g fl) (b p i x : Int) :
    Calls Try.prog 19 #[.pointer (some ⟨f, 0, none⟩), .int .i64 b, .int .i64 p, .int .i64 i, .int .u8 x] w fun e w' => e = .returned (.int .i64 (spoilE fl b p i)) ∧ IsF w' f g (spoilF fl b p i x) ∧ KeepF f g w w' := by
  have hmf : ∀ (fn : Fn) (first cap : Array Value) (w : World), (Instr.makeFunc fn first cap).run Try.prog w = .ok (.func fn first cap) w := fun _ _ _ _ => rfl
  have hI4 := (((h.alloc (.cells #[.pointer (some ⟨f, 0, none⟩)] 23)).alloc (.cells #[.int .i64 b] 3)).alloc (.cells #[.int .i64 p] 3)).alloc (.cells #[.int .i64 i] 3)
  have hk4 := ((((KeepF.refl f g w).alloc (.cells #[.pointer (some ⟨f, 0, none⟩)] 23)).alloc (.cells #[.int .i64 b] 3)).alloc (.cells #[.int .i64 p] 3)).alloc (.cells #[.int .i64 i] 3)
  have HI4 := Lib.hid hI4
  have HK4 := Lib.hid hk4
  have hglt := h.glt
  have hL := Lib.hid (looks_is hI4 47 #[.pointer (some ⟨w.heap.size, 0, none⟩), .pointer (some ⟨w.heap.size + 1, 0, none⟩), .pointer (some ⟨w.heap.size + 1 + 1, 0, none⟩), .pointer (some ⟨w.heap.size + 1 + 1 + 1, 0, none⟩)] (okS fl b p i) (enter_any _ _ _ Try.func47 rfl (by kernel_rfl)) (spoil1 hI4 w.heap.size b p i (by simp [go_sem]) (by simp [go_sem]) (by simp [go_sem]) (by simp [go_sem])))
  obtain ⟨E, HE⟩ : ∃ E, RowKit.Hid (spoilE fl b p i = E) := ⟨_, Lib.hid rfl⟩
  obtain ⟨R, HR⟩ : ∃ R, RowKit.Hid (spoilF fl b p i x = R) := ⟨_, Lib.hid rfl⟩
  rw [HE.out, HR.out]
  by_cases hz : looksE fl (okS fl b p i) = 0
  · obtain ⟨b0, b1, p0, p1, i0, i1⟩ := okS_of hz
    obtain ⟨b, rfl⟩ := Int.eq_ofNat_of_zero_le b0
    obtain ⟨p, rfl⟩ := Int.eq_ofNat_of_zero_le p0
    obtain ⟨i, rfl⟩ := Int.eq_ofNat_of_zero_le i0
    have hb : b < fl.n := by omega
    have hp : p < 16 := by omega
    have hi : i < 256 := by omega
    have HA := Lib.hid (at_is HI4.out hb hp)
    have he : spoilE fl (b : Int) (p : Int) (i : Int) = atE fl b p := by unfold spoilE; rw [if_pos hz]; simp
    rw [hz] at hL
    by_cases ha : atE fl b p = 0
    · have ed := hI4.data hb hp hi
      have ez := hI4.gz (b * 4113 + p * 257 + 1 + i)
      have HP := Lib.hid (hI4.put (i := b * 4113 + p * 257 + 1 + i) (by omega) (Go.bits .xor .u8 (fl.c (b * 4113 + p * 257 + 1 + i)) x))
      rw [kdAt_data hp hi] at HP
      have HE0 := Lib.hid (show E = 0 by rw [← HE.out, he, ha])
      have HRR := Lib.hid (show R = { fl with c := updC fl.c (b * 4113 + p * 257 + 1 + i) (Go.bits .xor .u8 (fl.c (b * 4113 + p * 257 + 1 + i)) x) } by rw [← HR.out]; unfold spoilF; rw [if_pos (by rw [he, ha])]; simp)
      unfold atP at HA
      rw [if_pos ha, ha] at HA
      rw [HE0.out, HRR.out]
      obtain ⟨q, hq⟩ : ∃ q, b * 4113 + p * 257 = q := ⟨_, rfl⟩
      rw [hq] at HA HP ed ez ⊢
      clear he ha hz b0 b1 p0 p1 hb hp hq HE HR HE0 HRR h hI4 hk4
      go_enter Try.func19, Try.ntmps19
      go_wp2_with (first | (go_at_call 31; refine hL.out.mono ?_; rintro e w' ⟨rfl, rfl⟩) | (go_at_call 45; refine HA.out.mono ?_; rintro e w' ⟨rfl, rfl⟩))
      go_region
      all_goals
        go_wp2
        go_ret
        refine ⟨rfl, ?_, ?_⟩
        · exact HP.out.drew
        · exact (HK4.out.setG _ _).drew
    · obtain ⟨y, hy⟩ : ∃ y, atE fl b p = y := ⟨_, rfl⟩
      have HEE := Lib.hid (show E = y by rw [← HE.out, he, hy])
      have HRR := Lib.hid (show R = fl by rw [← HR.out]; unfold spoilF; rw [if_neg (by rw [he]; exact ha)])
      unfold atP at HA
      rw [if_neg ha, hy] at HA
      rw [HEE.out, HRR.out]
      rw [hy] at ha
      have hne : (y == 0) = false := beq_eq_false_iff_ne.2 ha
      clear he ha hz hy b0 b1 p0 p1 hb hp HE HR HEE HRR h hI4 hk4
      go_enter Try.func19, Try.ntmps19
      go_wp2_with (first | (go_at_call 31; refine hL.out.mono ?_; rintro e w' ⟨rfl, rfl⟩) | (go_at_call 45; refine HA.out.mono ?_; rintro e w' ⟨rfl, rfl⟩))
      go_ret
      exact ⟨rfl, HI4.out, HK4.out⟩
  · obtain ⟨y, hy⟩ : ∃ y, looksE fl (okS fl b p i) = y := ⟨_, rfl⟩
    have HEE := Lib.hid (show E = y by rw [← HE.out]; unfold spoilE; rw [if_neg hz, hy])
    have HRR := Lib.hid (show R = fl by rw [← HR.out]; unfold spoilF spoilE; rw [if_neg hz, if_neg hz])
    rw [HEE.out, HRR.out]
    rw [hy] at hL hz
    have hne : (y != 0) = true := bne_iff_ne.2 hz
    clear hz hy HE HR HEE HRR h hI4 hk4
    go_enter Try.func19, Try.ntmps19
    go_wp2_with (go_at_call 31; refine hL.out.mono ?_; rintro e w' ⟨rfl, rfl⟩)
    go_ret
    exact ⟨rfl, HI4.out, HK4.out⟩
end Go.Proofs.Ytandhpnpodkemaa.M
