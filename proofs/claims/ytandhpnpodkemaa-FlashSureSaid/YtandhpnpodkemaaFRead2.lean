/- Contract of a flash's Read. -/
import Derived.Test.YtandhpnpodkemaaFClone
set_option linter.unusedVariables false
set_option linter.unusedSimpArgs false
set_option maxRecDepth 100000
namespace Go.Proofs.Ytandhpnpodkemaa.M
open Go.RowKit Go.Proofs.YtandhpnpodkemaaW.PrintWords

def okAt (fl : Fl) (b p : Int) : Bool := (decide (0 ≤ b) && decide (b < (fl.n : Int))) && (decide (0 ≤ p) && decide (p < 16))
def pgL (fl : Fl) (b p : Nat) : List Int := (List.range 256).map fun i => fl.c (b * 4113 + p * 257 + 1 + i)
def readE (fl : Fl) (b p : Int) : Int := if looksE fl (okAt fl b p) = 0 then atE fl b.toNat p.toNat else looksE fl (okAt fl b p)
def readL (fl : Fl) (b p : Int) : List Int := if readE fl b p = 0 then pgL fl b.toNat p.toNat else []
theorem okAt_of {fl : Fl} {b p : Int} (h : looksE fl (okAt fl b p) = 0) : 0 ≤ b ∧ b < (fl.n : Int) ∧ 0 ≤ p ∧ p < 16 := by
  unfold looksE at h
  split at h
  · omega
  · split at h
    · rename_i h2
      unfold okAt at h2
      simp only [Bool.and_eq_true, decide_eq_true_eq] at h2
      exact ⟨h2.1.1, h2.1.2, h2.2.1, h2.2.2⟩
    · omega
theorem IsF.pg {w : World} {f g : Nat} {fl : Fl} (h : IsF w f g fl) {b p : Nat} (hb : b < fl.n) (hp : p < 16) : Kd.C (Kd.int .u8) w (some ⟨g, b * 4113 + p * 257 + 1, none⟩) (pgL fl b p).length (pgL fl b p) := by
  refine Kd.C_of_reads (d := (0 : Int)) (h1 := fun _ => rfl) ⟨rfl, by simp [pgL], fun hl => ⟨_, rfl, fun j hj => ?_⟩⟩
  have hj' : j < 256 := by simpa [pgL] using hj
  have := h.data hb hp hj'
  rw [show (⟨g, b * 4113 + p * 257 + 1, none⟩ : Addr).add j = ⟨g, b * 4113 + p * 257 + 1 + j, none⟩ from by simp [Addr.add], this]
  simp [pgL, List.getD_eq_getElem?_getD, List.getElem?_range hj']
theorem Own.lower {W : World} {base base' : Nat} {v : Value} {l : List Int} (h : Own W base v l) (hb : base' ≤ base) : Own W base' v l := Kd.R_lower h hb
theorem read1 {w : World} {f g : Nat} {fl : Fl} (h : IsF w f g fl) (B : Nat) (b p : Int) (h0 : w.cell? ⟨B, 0, none⟩ = some (.pointer (some ⟨f, 0, none⟩))) (h1 : w.cell? ⟨B + 1, 0, none⟩ = some (.int .i64 b)) (h2 : w.cell? ⟨B + 1 + 1, 0, none⟩ = some (.int .i64 p)) :
    Calls Try.prog 44 #[.pointer (some ⟨B, 0, none⟩), .pointer (some ⟨B + 1, 0, none⟩), .pointer (some ⟨B + 1 + 1, 0, none⟩)] w fun e w' => e = .returned (.bool (okAt fl b p)) ∧ w = w' := by
  have HI := Lib.hid (is_calls h b)
  have HP := Lib.hid (place_calls p w)
  obtain ⟨r, hr⟩ : ∃ r, RowKit.Hid (okAt fl b p = r) := ⟨_, Lib.hid rfl⟩
  rw [hr.out]
  cases hq : (decide (0 ≤ b) && decide (b < (fl.n : Int))) with
  | true =>
    obtain ⟨s, hs⟩ : ∃ s, (decide (0 ≤ p) && decide (p < 16)) = s := ⟨_, rfl⟩
    rw [hq] at HI
    rw [hs] at HP
    have HRS := Lib.hid (show s = r by rw [← hr.out]; unfold okAt; rw [hq, hs]; rfl)
    clear hq hs h
    go_enter Try.func44, Try.ntmps44
    go_wp2_with (first | (go_at_call 33; refine HI.out.mono ?_; rintro e w' ⟨rfl, rfl⟩) | (go_at_call 34; refine HP.out.mono ?_; rintro e w' ⟨rfl, rfl⟩))
    go_ret
    exact ⟨by rw [← HRS.out]; rfl, rfl⟩
  | false =>
    rw [hq] at HI
    have HRS := Lib.hid (show false = r by rw [← hr.out]; unfold okAt; rw [hq]; rfl)
    clear hq h
    go_enter Try.func44, Try.ntmps44
    go_wp2_with (first | (go_at_call 33; refine HI.out.mono ?_; rintro e w' ⟨rfl, rfl⟩) | (go_at_call 34; refine HP.out.mono ?_; rintro e w' ⟨rfl, rfl⟩))
    go_ret
    exact ⟨by rw [← HRS.out]; rfl, rfl⟩
theorem read_is {w : World} {f g : Nat} {fl : Fl} (h : IsF w f g fl) (b p : Int) :
    Calls Try.prog 16 #[.pointer (some ⟨f, 0, none⟩), .int .i64 b, .int .i64 p] w fun e w' => ∃ v, e = .returned (.tuple #[v, .int .i64 (readE fl b p)]) ∧ Own w' w.heap.size v (readL fl b p) ∧ Below w.heap.size w w' := by
  have hmf : ∀ (fn : Fn) (first cap : Array Value) (w : World), (Instr.makeFunc fn first cap).run Try.prog w = .ok (.func fn first cap) w := fun _ _ _ _ => rfl
  have hI3 := ((h.alloc (.cells #[.pointer (some ⟨f, 0, none⟩)] 23)).alloc (.cells #[.int .i64 b] 3)).alloc (.cells #[.int .i64 p] 3)
  have HI3 := Lib.hid hI3
  have hL := Lib.hid (looks_is hI3 44 #[.pointer (some ⟨w.heap.size, 0, none⟩), .pointer (some ⟨w.heap.size + 1, 0, none⟩), .pointer (some ⟨w.heap.size + 1 + 1, 0, none⟩)] (okAt fl b p) (enter_any _ _ _ Try.func44 rfl (by kernel_rfl)) (read1 hI3 w.heap.size b p (by simp [go_sem]) (by simp [go_sem]) (by simp [go_sem])))
  have HBL := Lib.hid (show Below w.heap.size w (((w.alloc (.cells #[.pointer (some ⟨f, 0, none⟩)] 23)).alloc (.cells #[.int .i64 b] 3)).alloc (.cells #[.int .i64 p] 3)) from (((Below.refl _ _).alloc (Nat.le_refl _) _).alloc (by simp) _).alloc (by simp; omega) _)
  obtain ⟨E, HE⟩ : ∃ E, RowKit.Hid (readE fl b p = E) := ⟨_, Lib.hid rfl⟩
  obtain ⟨L, HL⟩ : ∃ L, RowKit.Hid (readL fl b p = L) := ⟨_, Lib.hid rfl⟩
  rw [HE.out, HL.out]
  clear h hI3
  by_cases hz : looksE fl (okAt fl b p) = 0
  · obtain ⟨b0, b1, p0, p1⟩ := okAt_of hz
    obtain ⟨b, rfl⟩ := Int.eq_ofNat_of_zero_le b0
    obtain ⟨p, rfl⟩ := Int.eq_ofNat_of_zero_le p0
    have hb : b < fl.n := by omega
    have hp : p < 16 := by omega
    have HA := Lib.hid (at_is HI3.out hb hp)
    have he : readE fl (b : Int) (p : Int) = atE fl b p := by unfold readE; rw [if_pos hz]; simp
    rw [hz] at hL
    by_cases ha : atE fl b p = 0
    · have HC := Lib.hid (HI3.out.pg hb hp)
      have HE0 := Lib.hid (show E = 0 by rw [← HE.out, he, ha])
      have HLL := Lib.hid (show L = pgL fl b p by rw [← HL.out]; unfold readL; rw [if_pos (by rw [he, ha])]; simp)
      have hlen : (pgL fl b p).length = 256 := by simp [pgL]
      unfold atP at HA
      rw [if_pos ha, ha] at HA
      rw [HE0.out, HLL.out]
      have HLN := Lib.hid hlen
      obtain ⟨q, HQ⟩ : ∃ q, RowKit.Hid (b * 4113 + p * 257 = q) := ⟨_, Lib.hid rfl⟩
      rw [HQ.out] at HA HC
      clear he ha hz b0 b1 p0 p1 hb hp hlen
      go_enter Try.func16, Try.ntmps16
      go_wp2_with (first | (go_at_call 31; refine hL.out.mono ?_; rintro e w' ⟨rfl, rfl⟩) | (go_at_call 45; refine HA.out.mono ?_; rintro e w' ⟨rfl, rfl⟩) | (go_at_call 10; refine ((HLN.out ▸ bclone_calls (some ⟨g, q + 1, none⟩) 256 (pgL fl b p) _ HC.out (by rw [HLN.out]; omega) (by rw [HLN.out]; omega))).mono ?_; rintro e w' ⟨v, rfl, ho, hbl⟩; have HO := Lib.hid ho; have HB2 := Lib.hid hbl; clear ho hbl))
      go_ret2
      exact ⟨_, rfl, HO.out.lower HBL.out.size, HBL.out.trans (HB2.out.mono HBL.out.size)⟩
    · have HEE := Lib.hid (show E = atE fl b p by rw [← HE.out, he])
      have HLL := Lib.hid (show L = [] by rw [← HL.out]; unfold readL; rw [if_neg (by rw [he]; exact ha)])
      unfold atP at HA
      rw [if_neg ha] at HA
      obtain ⟨x, hx⟩ : ∃ x, atE fl b p = x := ⟨_, rfl⟩
      rw [hx] at HA HEE ha
      have hne : (x != 0) = true := bne_iff_ne.2 ha
      rw [HEE.out, HLL.out]
      clear he ha hz b0 b1 p0 p1 hb hp hx
      go_enter Try.func16, Try.ntmps16
      go_wp2_with (first | (go_at_call 31; refine hL.out.mono ?_; rintro e w' ⟨rfl, rfl⟩) | (go_at_call 45; refine HA.out.mono ?_; rintro e w' ⟨rfl, rfl⟩))
      go_ret2
      exact ⟨_, rfl, Kd.R_nil _ _ _ _ _, HBL.out⟩
  · have he : readE fl b p = looksE fl (okAt fl b p) := by unfold readE; rw [if_neg hz]
    have HEE := Lib.hid (show E = looksE fl (okAt fl b p) by rw [← HE.out, he])
    have HLL := Lib.hid (show L = [] by rw [← HL.out]; unfold readL; rw [if_neg (by rw [he]; exact hz)])
    obtain ⟨x, hx⟩ : ∃ x, looksE fl (okAt fl b p) = x := ⟨_, rfl⟩
    rw [hx] at hL HEE hz
    have hne : (x != 0) = true := bne_iff_ne.2 hz
    rw [HEE.out, HLL.out]
    clear he hz hx
    go_enter Try.func16, Try.ntmps16
    go_wp2_with (go_at_call 31; refine hL.out.mono ?_; rintro e w' ⟨rfl, rfl⟩)
    go_ret2
    exact ⟨_, rfl, Kd.R_nil _ _ _ _ _, HBL.out⟩
end Go.Proofs.Ytandhpnpodkemaa.M
