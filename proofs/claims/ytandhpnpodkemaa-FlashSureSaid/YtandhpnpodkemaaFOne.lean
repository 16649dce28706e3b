/- FlashOne's walk. -/
import Derived.Test.YtandhpnpodkemaaFOnePure
import Derived.Test.YtandhpnpodkemaaFEqual
import Derived.Deep.DeepCutAuto
set_option linter.unusedVariables false
set_option linter.unusedSimpArgs false
set_option maxRecDepth 100000
namespace Go.Proofs.Ytandhpnpodkemaa.M
open Go.RowKit Go.Proofs.YtandhpnpodkemaaW.PrintWords

theorem bgcN4 (w : World) : Calls Try.prog 7 #[.int .i64 4] w fun e w' => e = .returned (.tuple #[.pointer (some ⟨w.heap.size + 1, 0, none⟩), .int .i64 0]) ∧ IsF w' (w.heap.size + 1) w.heap.size (newF 4) ∧ Below w.heap.size w w' := new_is 4 w (by omega) (by omega)
/-- An operation in a box of its own. -/
def OpBox (W : World) (b : Nat) (o : OpD) (B : Option Addr) (cb : Nat) : Prop := W.heap[b]? = some (.cells #[.int .i64 o.Do, .int .i64 o.Block, .int .i64 o.Page, .int .i64 o.At, .int .i64 o.Keep, .slice B o.B.length cb] 31)
theorem OpBox.cell {W : World} {b : Nat} {o : OpD} {B : Option Addr} {cb : Nat} (h : OpBox W b o B cb) : W.cell? ⟨b, 0, none⟩ = some (.int .i64 o.Do) ∧ W.cell? ⟨b, 1, none⟩ = some (.int .i64 o.Block) ∧ W.cell? ⟨b, 2, none⟩ = some (.int .i64 o.Page) ∧ W.cell? ⟨b, 3, none⟩ = some (.int .i64 o.At) ∧ W.cell? ⟨b, 4, none⟩ = some (.int .i64 o.Keep) ∧ W.cell? ⟨b, 5, none⟩ = some (.slice B o.B.length cb) := by
  unfold OpBox at h
  simp [World.cell?, h]
theorem OpBox.lt {W : World} {b : Nat} {o : OpD} {B : Option Addr} {cb : Nat} (h : OpBox W b o B cb) : b < W.heap.size := (Array.getElem?_eq_some_iff.1 h).1
theorem OpBox.keep {W W' : World} {b f g : Nat} {o : OpD} {B : Option Addr} {cb : Nat} (h : OpBox W b o B cb) (hk : KeepF f g W W') (hf : b ≠ f) (hg : b ≠ g) : OpBox W' b o B cb := (hk.block b h.lt hf hg).trans h
theorem OpBox.below {W W' : World} {b : Nat} {o : OpD} {B : Option Addr} {cb : Nat} (h : OpBox W b o B cb) (hb : Below W.heap.size W W') : OpBox W' b o B cb := (hb.block b h.lt).trans h
/-- Between two operations of the script. -/
def OneL (f g n : Nat) (w2 : World) (i : Value) (wr : World) : Prop := ∃ (k : Nat) (fl : Fl), i = .int .i64 k ∧ k ≤ n ∧ Quiet 4 fl ∧ IsF wr f g fl ∧ KeepF f g w2 wr
set_option maxHeartbeats 4000000 in
theorem one_walk (w : World) (A : Option Addr) (c : Nat) (l : List OpD) (hl : Kd.F opK w (fun k => k < w.heap.size) A l.length l) (o : OpD) (B : Option Addr) (cb : Nat) (hB : Kd.F (Kd.int .u8) w (fun k => k < w.heap.size) B o.B.length o.B) :
    Calls Try.prog 4 #[.slice A l.length c, .agg #[.int .i64 o.Do, .int .i64 o.Block, .int .i64 o.Page, .int .i64 o.At, .int .i64 o.Keep, .slice B o.B.length cb]] w fun e w' => e = .returned (.bool true) ∧ Below w.heap.size w w' := by
  go_enter Try.func4, Try.ntmps4
  go_wp2_with fail
  refine (bgcN4 _).mono ?_
  rintro e w1 ⟨rfl, hI, hb⟩
  have HI := Lib.hid hI; have HB1 := Lib.hid hb; clear hI hb
  go_wp2_with fail
  refine (begun_is _).mono ?_
  rintro e w2 ⟨rfl, hb⟩
  have HI2 := Lib.hid (HI.out.below hb); have HB2 := Lib.hid hb; clear hb
  have HO := Lib.hid (show OpBox w2 w.heap.size o B cb from ((HB2.out.block w.heap.size (by have := HB1.out.size; simp at this; omega)).trans (HB1.out.block w.heap.size (by simp))).trans (heap_alloc_new w _))
  go_wp2_with fail
  have hlm : l.length ≤ 9223372036854775807 := Kd.F_max hl
  have hfp : w1.heap.size ≤ w2.heap.size := HB2.out.size
  have HL := Lib.hid (show Kd.F opK w2 (fun k => k < w.heap.size) A l.length l from Kd.F_mono (Kd.F_step hl (fun k hk hlt => ((HB2.out.block k (by have := HB1.out.size; simp at this; omega)).trans ((HB1.out.mono (by simp)).block k hlt)).trans (Below.heap_alloc w _ k hlt))) (fun _ h => h))
  obtain ⟨fp, hfp⟩ : ∃ fp, fp = w.heap.size + 1 + 1 := ⟨_, rfl⟩
  obtain ⟨gp, hgp⟩ : ∃ gp, gp = w.heap.size + 1 := ⟨_, rfl⟩
  have HI3 : RowKit.Hid (IsF w2 fp gp (newF 4)) := by rw [hfp, hgp]; have := HI2.out; simpa using Lib.hid this
  rw [← hfp]
  have Hf := Lib.hid hfp; have Hg := Lib.hid hgp; clear hfp hgp
  clear hl HI HI2
  go_loopw [32] (fun i wr => OneL fp gp l.length w2 i wr) (fun i _ => l.length - (intOf i).toNat)
  case atStart => exact ⟨0, newF 4, rfl, by omega, quiet_new 4, HI3.out, KeepF.refl _ _ _⟩
  case round =>
    obtain ⟨k, fl, rfl, hk, hq, hI, hK⟩ := hrel
    have HQ := Lib.hid hq; have HI := Lib.hid hI; have HK := Lib.hid hK
    clear hq hI hK
    by_cases hlt : k < l.length
    · have ho : l[k]? = some l[k] := List.getElem?_eq_getElem hlt
      obtain ⟨x, hx⟩ : ∃ x, l[k] = x := ⟨_, rfl⟩
      rw [hx] at ho
      clear hx
      have HLr := Lib.hid (show Kd.F opK wr (fun k => k < w.heap.size) A l.length l from Kd.F_step HL.out (fun j hj hjl => HK.out.block j hjl (by have := Hf.out; omega) (by have := Hg.out; omega)))
      obtain ⟨ad, B', cb', rfl, ⟨hc0, hc1, hc2, hc3, hc4, hc5⟩, hB', hcb'⟩ := op_get HLr.out ho
      clear ho
      have HB' := Lib.hid hB'; clear hB'
      have HIa := Lib.hid (HI.out.alloc (.cells #[.int .i64 x.Do, .int .i64 x.Block, .int .i64 x.Page, .int .i64 x.At, .int .i64 x.Keep, .slice B' x.B.length cb'] 31))
      have HKa := Lib.hid (HK.out.alloc (.cells #[.int .i64 x.Do, .int .i64 x.Block, .int .i64 x.Page, .int .i64 x.At, .int .i64 x.Keep, .slice B' x.B.length cb'] 31))
      have HBa := Lib.hid (Kd.F_mono (Kd.F_alloc HB'.out (.cells #[.int .i64 x.Do, .int .i64 x.Block, .int .i64 x.Page, .int .i64 x.At, .int .i64 x.Keep, .slice B' x.B.length cb'] 31)) (fun k hk => (⟨by have := Hf.out; omega, by have := Hg.out; omega⟩ : k ≠ fp ∧ k ≠ gp)))
      have HP := Lib.hid (program_is HIa.out HQ.out.fu x.Block x.Page B' cb' x.B HBa.out)
      have HE := Lib.hid (erase_is HIa.out HQ.out.fu x.Block)
      go_wp2_with fail
      · refine HP.out.mono ?_
        rintro e w3 ⟨rfl, hI, hK⟩
        have HI4 := Lib.hid hI; have HK4 := Lib.hid (HKa.out.trans hK); clear hI hK
        go_wp2_with fail
        go_roundw
        case rel => exact ⟨k + 1, _, by go_num, by omega, HQ.out.prog _ _ _, HI4.out, HK4.out⟩
        case measure => simp [intOf]; omega
      · refine HE.out.mono ?_
        rintro e w3 ⟨rfl, hI, hK⟩
        have HI4 := Lib.hid hI; have HK4 := Lib.hid (HKa.out.trans hK); clear hI hK
        go_wp2_with fail
        go_roundw
        case rel => exact ⟨k + 1, _, by go_num, by omega, HQ.out.erase _, HI4.out, HK4.out⟩
        case measure => simp [intOf]; omega
      · go_roundw
        case rel => exact ⟨k + 1, _, by go_num, by omega, HQ.out, HIa.out, HKa.out⟩
        case measure => simp [intOf]; omega
    · clear HL
      have HOr := Lib.hid (HO.out.keep HK.out (by have := Hf.out; omega) (by have := Hg.out; omega))
      go_wp2_with fail
      have HC := Lib.hid (clone_is HI.out)
      refine HC.out.mono ?_
      rintro e w3 ⟨f2, g2, cap, rfl, ⟨hf2, hg2⟩, hI2, hb⟩
      have HIc := Lib.hid hI2; have HI3 := Lib.hid (HI.out.below hb); have HBc := Lib.hid hb
      have HO3 := Lib.hid (HOr.out.below hb)
      clear hI2 hb HC HOr HO
      obtain ⟨hc0, hc1, hc2, hc3, hc4, hc5⟩ := HO3.out.cell
      have HS := Lib.hid (setfuse_is HI3.out 1 o.Keep)
      have hse : setFuseE fl 1 = 0 := (setFuse_ok HQ.out o.Keep).1
      rw [hse] at HS
      clear hse
      go_wp2_with fail
      refine HS.out.mono ?_
      rintro e w4 ⟨rfl, hI, hK⟩
      have HI4 := Lib.hid hI; have HK4 := Lib.hid hK
      have HO4 := Lib.hid (HO3.out.keep hK (by have := Hf.out; omega) (by have := Hg.out; omega))
      have hf2f : f2 ≠ fp := by have := HI.out.flt; omega
      have hf2g : f2 ≠ gp := by have := HI.out.glt; omega
      have hg2f : g2 ≠ fp := by have := HI.out.flt; omega
      have hg2g : g2 ≠ gp := by have := HI.out.glt; omega
      have HIc4 := Lib.hid (HIc.out.move (hK.block f2 HIc.out.flt hf2f hf2g) (hK.block g2 HIc.out.glt hg2f hg2g))
      clear hI hK hc0 hc1 hc2 hc3 hc4 hc5 HS HI3 HIc HO3
      obtain ⟨hc0, hc1, hc2, hc3, hc4, hc5⟩ := HO4.out.cell
      have HP := Lib.hid (program_is HI4.out (one_fu HQ.out o.Keep) o.Block o.Page B cb o.B (Kd.F_mono (Kd.F_step hB (fun j hj hjl => by
        have e1 := ((HB2.out.block j (by have := HB1.out.size; simp at this; omega)).trans ((HB1.out.mono (by simp)).block j hjl)).trans (Below.heap_alloc w _ j hjl)
        have e2 := HK.out.block j (by have := HB1.out.size; have := HB2.out.size; simp at *; omega) (by have := Hf.out; omega) (by have := Hg.out; omega)
        have e3 := HBc.out.block j (by have := HK.out.size; have := HB1.out.size; have := HB2.out.size; simp at *; omega)
        have e4 := HK4.out.block j (by have := HBc.out.size; have := HK.out.size; have := HB1.out.size; have := HB2.out.size; simp at *; omega) (by have := Hf.out; omega) (by have := Hg.out; omega)
        exact e4.trans (e3.trans (e2.trans e1)))) (fun k hk => (⟨by have := Hf.out; omega, by have := Hg.out; omega⟩ : k ≠ fp ∧ k ≠ gp))))
      have HE := Lib.hid (erase_is HI4.out (one_fu HQ.out o.Keep) o.Block)
      go_upto_if 68 with fail
      go_cut [] (fun wx => IsF wx fp gp (oneF fl o) ∧ KeepF fp gp w4 wx)
      case first =>
        by_cases h2 : o.Do = 2
        · have HQ2 := Lib.hid (show oneF fl o = eraseF (setFuseF fl 1 o.Keep) o.Block by unfold oneF; rw [if_pos h2])
          have hb2 : (o.Do == 2) = true := by simp [h2]
          clear h2
          go_wp2_with fail
          refine HE.out.mono ?_
          rintro e w5 ⟨rfl, hI, hK⟩
          have HI5 := Lib.hid hI; have HK5 := Lib.hid hK
          clear hI hK
          go_wp2_with fail
          go_meet
          exact ⟨by rw [HQ2.out]; exact HI5.out, HK5.out⟩
        · have HQ2 := Lib.hid (show oneF fl o = progF (setFuseF fl 1 o.Keep) o.Block o.Page o.B by unfold oneF; rw [if_neg h2])
          have hb2 : (o.Do == 2) = false := by simp [h2]
          clear h2
          go_wp2_with fail
          refine HP.out.mono ?_
          rintro e w5 ⟨rfl, hI, hK⟩
          have HI5 := Lib.hid hI; have HK5 := Lib.hid hK
          clear hI hK
          go_wp2_with fail
          go_meet
          exact ⟨by rw [HQ2.out]; exact HI5.out, HK5.out⟩
      case rest =>
        obtain ⟨hI, hK⟩ := hcut
        have HI5 := Lib.hid hI; have HK5 := Lib.hid hK
        clear hI hK
        have HIc5 := Lib.hid (HIc4.out.move (HK5.out.block f2 HIc4.out.flt hf2f hf2g) (HK5.out.block g2 HIc4.out.glt hg2f hg2g))
        have HO5 := Lib.hid (HO4.out.keep HK5.out (by have := Hf.out; omega) (by have := Hg.out; omega))
        clear hc0 hc1 hc2 hc3 hc4 hc5 HO4 HIc4 HP HE
        go_upto_region 19 with fail
        go_cut [87] (fun s wx => s = .bool false ∧ IsF wx fp gp (backF (oneF fl o)) ∧ KeepF fp gp wc wx)
        case first =>
          have HD := Lib.hid (down_is HI5.out)
          have HR := Lib.hid (restart_is HI5.out)
          cases hd : (oneF fl o).down with
          | true =>
            have hre : restartE (oneF fl o) = 0 := by unfold restartE; rw [if_pos hd]
            have HBK := Lib.hid (show backF (oneF fl o) = restartF (oneF fl o) by unfold backF; rw [if_pos hd])
            rw [hd] at HD
            rw [hre] at HR
            clear hd hre
            go_wp2_with fail
            refine HD.out.mono ?_
            rintro e w' ⟨rfl, rfl⟩
            go_wp2_with fail
            refine HR.out.mono ?_
            rintro e w6 ⟨rfl, hI, hK⟩
            have HI6 := Lib.hid hI; have HK6 := Lib.hid hK
            clear hI hK
            go_wp2_with fail
            go_meet
            exact ⟨rfl, by rw [HBK.out]; exact HI6.out, HK6.out⟩
          | false =>
            have HBK := Lib.hid (show backF (oneF fl o) = oneF fl o by unfold backF; rw [if_neg (by rw [hd]; simp)])
            rw [hd] at HD
            clear hd HR
            go_wp2_with fail
            refine HD.out.mono ?_
            rintro e w' ⟨rfl, rfl⟩
            go_wp2_with fail
            go_meet
            exact ⟨rfl, by rw [HBK.out]; exact HI5.out, KeepF.refl _ _ _⟩
        case rest =>
          obtain ⟨rfl, hI, hK⟩ := hcut
          have HI6 := Lib.hid hI; have HK6 := Lib.hid hK
          clear hI hK
          have HIc6 := Lib.hid (HIc5.out.move (HK6.out.block f2 HIc5.out.flt hf2f hf2g) (HK6.out.block g2 HIc5.out.glt hg2f hg2g))
          have HO6 := Lib.hid (HO5.out.keep HK6.out (by have := Hf.out; omega) (by have := Hg.out; omega))
          clear HIc5 HO5
          go_wp2_with fail
          go_loopw [88] (fun i wr => ∃ b : Nat, i = .int .i64 b ∧ b ≤ 4 ∧ Aside0 (Below wc.heap.size wc wr)) (fun i _ => 4 - (intOf i).toNat)
          case atStart => exact ⟨0, rfl, by omega, ⟨Below.refl _ _⟩⟩
          case round =>
            obtain ⟨b, rfl, hb4, HBr⟩ := hrel
            by_cases hb : b < 4
            · have hbd : decide ((b : Int) < 4) = true := decide_eq_true (by omega)
              go_wp2_with fail
              go_loopw [91] (fun i wr => ∃ p : Nat, i = .int .i64 p ∧ p ≤ 16 ∧ Aside0 (Below wc.heap.size wc wr)) (fun i _ => 16 - (intOf i).toNat)
              case atStart => exact ⟨0, rfl, by omega, HBr⟩
              case round =>
                obtain ⟨p, rfl, hp16, HBq⟩ := hrel
                clear HBr
                have HOq := Lib.hid (HO6.out.below HBq.out)
                obtain ⟨hc0, hc1, hc2, hc3, hc4, hc5⟩ := HOq.out.cell
                have HIq := Lib.hid (HI6.out.below HBq.out)
                have HIcq := Lib.hid (HIc6.out.below HBq.out)
                by_cases hp : p < 16
                · have hdec : (∃ x1, ((b : Int) == o.Block) = x1 ∧ ∃ x2, (o.Do == 2) = x2 ∧ ∃ x3, ((p : Int) == o.Page) = x3) := ⟨_, rfl, _, rfl, _, rfl⟩
                  obtain ⟨x1, hx1, x2, hx2, x3, hx3⟩ := hdec
                  by_cases hskip : (x1 && (x2 || x3)) = true
                  · have hx : x1 = true ∧ (x2 = true ∨ (x2 = false ∧ x3 = true)) := by cases x1 <;> cases x2 <;> cases x3 <;> simp_all
                    obtain ⟨rfl, (rfl | ⟨rfl, rfl⟩)⟩ := hx
                    all_goals
                      clear hskip
                      go_wp2_with fail
                      go_roundw
                      case rel => exact ⟨p + 1, by go_num, by omega, HBq⟩
                      case measure => simp [intOf]; omega
                  · have hne : ¬ ((b : Int) = o.Block ∧ (o.Do = 2 ∨ (p : Int) = o.Page)) := by
                      rintro ⟨e1, e2⟩
                      apply hskip
                      rw [← hx1, ← hx2, ← hx3]
                      simp [e1]
                      simpa [e1] using e2
                    have HS := Lib.hid (one_same HQ.out o hp hne)
                    have hx : x1 = false ∨ (x1 = true ∧ x2 = false ∧ x3 = false) := by cases x1 <;> cases x2 <;> cases x3 <;> simp_all
                    have hR1 := read_is HIcq.out (b : Int) (p : Int)
                    rw [show readE (cloneF fl cap) (b : Int) (p : Int) = readE fl (b : Int) (p : Int) from rfl, show readL (cloneF fl cap) (b : Int) (p : Int) = readL fl (b : Int) (p : Int) from rfl] at hR1
                    have hR2 := fun (wn : World) (hb : Below wr.heap.size wr wn) => read_is (HIq.out.below hb) (b : Int) (p : Int)
                    rw [HS.out.readE ((one_n HQ.out o).trans HQ.out.n.symm) ((back_down _).trans HQ.out.down.symm), HS.out.readL ((one_n HQ.out o).trans HQ.out.n.symm) ((back_down _).trans HQ.out.down.symm)] at hR2
                    obtain ⟨X, hX⟩ : ∃ X, readE fl (b : Int) (p : Int) = X := ⟨_, rfl⟩
                    obtain ⟨L, hL⟩ : ∃ L, readL fl (b : Int) (p : Int) = L := ⟨_, rfl⟩
                    rw [hX, hL] at hR1 hR2
                    have HR1 := Lib.hid hR1; have HR2 := Lib.hid hR2
                    clear hR1 hR2 hX hL hne hskip HS HIq HIcq
                    rcases hx with rfl | ⟨rfl, rfl, rfl⟩
                    all_goals
                      go_wp2_with fail
                      refine HR1.out.mono ?_
                      rintro e w7 ⟨v1, rfl, ho1, hb1⟩
                      obtain ⟨A1, c1, rfl, hc1, hr1⟩ := Kd.R_reads ho1
                      have HA1 := Lib.hid hr1; have HB7 := Lib.hid hb1
                      clear ho1 hc1 hr1 hb1
                      go_wp2_with fail
                      refine (HR2.out _ HB7.out).mono ?_
                      rintro e w8 ⟨v2, rfl, ho2, hb2⟩
                      obtain ⟨A2, c2, rfl, hc2, hr2⟩ := Kd.R_reads ho2
                      have HA2 := Lib.hid hr2; have HB8 := Lib.hid hb2; have HA3 := Lib.hid (Kd.C_below HA1.out hb2)
                      clear ho2 hc2 hr2 hb2
                      go_wp2_with fail
                      refine (equal_same A1 A2 _ _ c1 c2 L HA3.out HA2.out).mono ?_
                      rintro e w' ⟨rfl, rfl⟩
                      go_wp2_with fail
                      go_roundw
                      case rel => exact ⟨p + 1, by go_num, by omega, ⟨HBq.out.trans ((HB7.out.mono HBq.out.size).trans (HB8.out.mono (Nat.le_trans HBq.out.size HB7.out.size)))⟩⟩
                      case measure => simp [intOf]; omega
                · go_wp2_with fail
                  go_roundw
                  case rel => exact ⟨b + 1, by go_num, by omega, HBq⟩
                  case measure => simp [intOf]; omega
            · go_wp2_with fail
              go_ret
              refine ⟨rfl, ?_⟩
              have h1 : Below w.heap.size w w2 := (((Below.refl _ w).alloc (Nat.le_refl _) _).trans (HB1.out.mono (by simp))).trans (HB2.out.mono (by have := HB1.out.size; simp at this; omega))
              have h2 := KeepF.below_then h1 HK.out (h1.size) (by have := Hf.out; omega) (by have := Hg.out; omega)
              have h3 := h2.trans (HBc.out.mono h2.size)
              have h4 := KeepF.below_then h3 (HK4.out.trans (HK5.out.trans HK6.out)) h3.size (by have := Hf.out; omega) (by have := Hg.out; omega)
              exact h4.trans (HBr.out.mono h4.size)
end Go.Proofs.Ytandhpnpodkemaa.M
