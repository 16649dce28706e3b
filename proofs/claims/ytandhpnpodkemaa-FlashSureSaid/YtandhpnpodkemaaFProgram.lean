/- Contract of a flash's Program. -/
import Derived.Test.YtandhpnpodkemaaFProg4
set_option linter.unusedVariables false
set_option linter.unusedSimpArgs false
set_option maxRecDepth 100000
namespace Go.Proofs.Ytandhpnpodkemaa.M
open Go.RowKit Go.Proofs.YtandhpnpodkemaaW.PrintWords Go.Proofs.YtandhpnpodkemaaW.PrintLast

def progE (fl : Fl) (b p : Int) (n : Nat) : Int := if looksE fl (okP fl b p n) = 0 then (if fl.c (b.toNat * 4113 + p.toNat * 257) = 0 then changeE fl else 20) else looksE fl (okP fl b p n)
def progF (fl : Fl) (b p : Int) (l : List Int) : Fl :=
  if looksE fl (okP fl b p l.length) = 0 ∧ fl.c (b.toNat * 4113 + p.toNat * 257) = 0 then changeF fl (fullC fl.c (b.toNat * 4113 + p.toNat * 257) l) (updC fl.c (b.toNat * 4113 + p.toNat * 257) 1) else fl
theorem okP_of {fl : Fl} {b p : Int} {n : Nat} (h : looksE fl (okP fl b p n) = 0) : 0 ≤ b ∧ b < (fl.n : Int) ∧ 0 ≤ p ∧ p < 16 ∧ n ≤ 256 := by
  unfold looksE at h
  split at h
  · omega
  · split at h
    · rename_i h2
      unfold okP okAt at h2
      simp only [Bool.and_eq_true, decide_eq_true_eq] at h2
      exact ⟨h2.1.1.1, h2.1.1.2, h2.1.2.1, h2.1.2.2, by omega⟩
    · omega
set_option maxHeartbeats 1000000 in
theorem program_is {w : World} {f g : Nat} {fl : Fl} (h : IsF w f g fl) (hfu : 0 ≤ fl.fuse ∧ fl.fuse ≤ 9223372036854775807) (b p : Int) (A : Option Addr) (c : Nat) (l : List Int) (hr : Kd.F (Kd.int .u8) w (fun k => k ≠ f ∧ k ≠ g) A l.length l) :
    Calls Try.prog 9 #[.pointer (some ⟨f, 0, none⟩), .int .i64 b, .int .i64 p, .slice A l.length c] w fun e w' => e = .returned (.int .i64 (progE fl b p l.length)) ∧ IsF w' f g (progF fl b p l) ∧ KeepF f g w w' := by
  have hmf : ∀ (fn : Fn) (first cap : Array Value) (w : World), (Instr.makeFunc fn first cap).run Try.prog w = .ok (.func fn first cap) w := fun _ _ _ _ => rfl
  have hflt := h.flt
  have hglt := h.glt
  have hI4 := (((h.alloc (.cells #[.pointer (some ⟨f, 0, none⟩)] 23)).alloc (.cells #[.int .i64 b] 3)).alloc (.cells #[.int .i64 p] 3)).alloc (.cells #[.slice A l.length c] 29)
  have hk4 := ((((KeepF.refl f g w).alloc (.cells #[.pointer (some ⟨f, 0, none⟩)] 23)).alloc (.cells #[.int .i64 b] 3)).alloc (.cells #[.int .i64 p] 3)).alloc (.cells #[.slice A l.length c] 29)
  have HI4 := Lib.hid hI4
  have HK4 := Lib.hid hk4
  have hL := Lib.hid (looks_is hI4 32 #[.pointer (some ⟨w.heap.size, 0, none⟩), .pointer (some ⟨w.heap.size + 1, 0, none⟩), .pointer (some ⟨w.heap.size + 1 + 1, 0, none⟩), .pointer (some ⟨w.heap.size + 1 + 1 + 1, 0, none⟩)] (okP fl b p l.length) (enter_any _ _ _ Try.func32 rfl (by kernel_rfl)) (prog1 hI4 w.heap.size b p A l.length c (by simp [go_sem]) (by simp [go_sem]) (by simp [go_sem]) (by simp [go_sem])))
  obtain ⟨E, HE⟩ : ∃ E, RowKit.Hid (progE fl b p l.length = E) := ⟨_, Lib.hid rfl⟩
  obtain ⟨R, HR⟩ : ∃ R, RowKit.Hid (progF fl b p l = R) := ⟨_, Lib.hid rfl⟩
  rw [HE.out, HR.out]
  by_cases hz : looksE fl (okP fl b p l.length) = 0
  · obtain ⟨b0, b1, p0, p1, hl⟩ := okP_of hz
    obtain ⟨b, rfl⟩ := Int.eq_ofNat_of_zero_le b0
    obtain ⟨p, rfl⟩ := Int.eq_ofNat_of_zero_le p0
    have hb : b < fl.n := by omega
    have hp : p < 16 := by omega
    have hI5 := hI4.alloc (.cells #[.pointer none] 73)
    have hI6 := hI4.alloc (.cells #[.pointer (some ⟨g, b * 4113 + p * 257, none⟩)] 73)
    have HI6 := Lib.hid hI6.drew
    have HK6 := Lib.hid (hk4.alloc (.cells #[.pointer (some ⟨g, b * 4113 + p * 257, none⟩)] 73)).drew
    have e0 := hI5.c0
    have e04 := hI4.c0
    have es := hI6.st hb hp
    have g0 : (0 : Int) ≤ (b : Int) := by omega
    have g1 : (b : Int) < (fl.n : Int) := by omega
    have g2 : (0 : Int) ≤ (p : Int) := by omega
    have g3 : (p : Int) < 16 := by omega
    rw [hz] at hL
    by_cases hs : fl.c (b * 4113 + p * 257) = 0
    · rw [hs] at es
      have HEE := Lib.hid (show E = changeE fl by rw [← HE.out]; unfold progE; rw [if_pos hz, Int.toNat_natCast, Int.toNat_natCast, if_pos hs])
      have HRR := Lib.hid (show R = changeF fl (fullC fl.c (b * 4113 + p * 257) l) (updC fl.c (b * 4113 + p * 257) 1) by rw [← HR.out]; unfold progF; rw [Int.toNat_natCast, Int.toNat_natCast, if_pos ⟨hz, hs⟩])
      rw [HEE.out, HRR.out]
      have HCH := Lib.hid (change_is HI6.out hfu 36 37 #[.pointer (some ⟨w.heap.size + 1 + 1 + 1 + 1, 0, none⟩), .pointer (some ⟨w.heap.size + 1 + 1 + 1, 0, none⟩)] #[.pointer (some ⟨w.heap.size + 1 + 1 + 1 + 1, 0, none⟩)]
        (fullC fl.c (b * 4113 + p * 257) l) (updC fl.c (b * 4113 + p * 257) 1) (enter_any _ _ _ Try.func36 rfl (by kernel_rfl)) (enter_any _ _ _ Try.func37 rfl (by kernel_rfl))
        (prog2 hb hp (by simp [go_sem]) (by simp [go_sem]) (by omega) (by omega) A c l (by simp [go_sem]) (by simp [go_sem]) (by omega) (by omega) (Kd.F_drew (Kd.F_alloc (Kd.F_alloc (Kd.F_alloc (Kd.F_alloc (Kd.F_alloc hr _) _) _) _) _)) hl)
        (prog3 hb hp (by simp [go_sem]) (by simp [go_sem]) (by omega) (by omega)))
      clear hz hs HE HR HEE HRR h hI4 hk4 hI5 hI6 hr hfu b0 b1 p0 p1
      go_enter Try.func9, Try.ntmps9
      go_wp2_with (go_at_call 31; refine hL.out.mono ?_; rintro e w' ⟨rfl, rfl⟩)
      go_region
      go_wp2_with (go_at_call 35; refine HCH.out.mono ?_; rintro e w' ⟨rfl, hI', hK'⟩; have HI' := Lib.hid hI'; have HK' := Lib.hid (HK6.out.trans hK'); clear hI' hK')
      go_ret
      exact ⟨rfl, HI'.out, HK'.out⟩
    · obtain ⟨x, hx⟩ : ∃ x, fl.c (b * 4113 + p * 257) = x := ⟨_, rfl⟩
      rw [hx] at es
      have hne : (x != 0) = true := bne_iff_ne.2 (by rw [← hx]; exact hs)
      have HEE := Lib.hid (show E = 20 by rw [← HE.out]; unfold progE; rw [if_pos hz, Int.toNat_natCast, Int.toNat_natCast, if_neg hs])
      have HRR := Lib.hid (show R = fl by rw [← HR.out]; unfold progF; rw [Int.toNat_natCast, Int.toNat_natCast, if_neg (fun e => hs e.2)])
      rw [HEE.out, HRR.out]
      clear hz hs hx HE HR HEE HRR h hI4 hk4 hI5 hI6 hr hfu b0 b1 p0 p1
      go_enter Try.func9, Try.ntmps9
      go_wp2_with (go_at_call 31; refine hL.out.mono ?_; rintro e w' ⟨rfl, rfl⟩)
      go_region
      go_wp2
      go_ret
      exact ⟨rfl, HI6.out, HK6.out⟩
  · obtain ⟨x, hx⟩ : ∃ x, looksE fl (okP fl b p l.length) = x := ⟨_, rfl⟩
    have HEE := Lib.hid (show E = x by rw [← HE.out]; unfold progE; rw [if_neg hz, hx])
    have HRR := Lib.hid (show R = fl by rw [← HR.out]; unfold progF; rw [if_neg (fun e => hz e.1)])
    rw [HEE.out, HRR.out]
    rw [hx] at hL hz
    have hne : (x != 0) = true := bne_iff_ne.2 hz
    clear hz hx HE HR HEE HRR h hI4 hk4 hr hfu
    go_enter Try.func9, Try.ntmps9
    go_wp2_with (go_at_call 31; refine hL.out.mono ?_; rintro e w' ⟨rfl, rfl⟩)
    go_ret
    exact ⟨rfl, HI4.out, HK4.out⟩
end Go.Proofs.Ytandhpnpodkemaa.M
