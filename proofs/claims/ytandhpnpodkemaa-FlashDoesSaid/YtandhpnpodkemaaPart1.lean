/- FlashDoesSaid: contracts of the functions that the law goes through, put together in build order (part 2 of 2). -/
import Derived.Test.YtandhpnpodkemaaPart0
import Derived.DeepKeys
import Derived.Deep.MidRow
import Derived.Deep.RegionHeld3
import Derived.Test.YtandhpnpodkemaaWTab
import Derived.Lib.Bytes
import Derived.ChangeKeysEq
section
/- The reference's Erase. -/
set_option linter.unusedVariables false
set_option linter.unusedSimpArgs false
set_option maxRecDepth 100000
namespace Go.Proofs.Ytandhpnpodkemaa.M
open Go.RowKit Go.Proofs.YtandhpnpodkemaaW.PrintWords Go.Proofs.YtandhpnpodkemaaW.PrintLast
theorem eraseC_st {c : Nat → Int} {b : Nat} {s : Int} : ∀ k p, k ≤ 16 → p < k → eraseC c b s k (b * 4113 + p * 257) = s
  | 0, p, _, h => absurd h (Nat.not_lt_zero p)
  | k + 1, p, hk, h => by
    unfold eraseC eraseC1
    by_cases e : p = k
    · subst e
      rw [putL_far (by left; omega), updC_same]
    · rw [putL_far (by left; omega), updC_far _ (by omega)]
      exact eraseC_st k p (by omega) (by omega)
theorem eraseC_wear {c : Nat → Int} {b : Nat} {s : Int} : ∀ k, k ≤ 16 → eraseC c b s k (b * 4113 + 4112) = wrap64 (c (b * 4113 + 4112) + 1)
  | 0, _ => by unfold eraseC; exact updC_same _
  | k + 1, hk => by
    unfold eraseC eraseC1
    rw [putL_far (by right; simp; omega), updC_far _ (by omega)]
    exact eraseC_wear k (by omega)
theorem pg_erased {fl : Fl} {b : Nat} {s : Int} (hs : s = 0 ∨ s = 1) : ∀ p, p < 16 → pgOf { fl with c := eraseC fl.c b s 16 } b p = ⟨decide (s ≠ 0), decide (s = 1), []⟩ := fun p hp => by
  have e := eraseC_st (c := fl.c) (b := b) (s := s) 16 p (Nat.le_refl _) hp
  unfold pgOf
  simp only [e]
  rw [if_pos hs]
def rowC (c : Nat → Int) (b : Nat) (s : Int) : Nat → Int := updC (eraseC c b s 16) (b * 4113 + 4112) (c (b * 4113 + 4112))
theorem rowC_wear (c : Nat → Int) (b : Nat) (s : Int) : updC (rowC c b s) (b * 4113 + 4112) (wrap64 (c (b * 4113 + 4112) + 1)) = eraseC c b s 16 := by
  funext i
  unfold rowC updC
  by_cases e : i = b * 4113 + 4112
  · subst e
    rw [if_pos rfl, eraseC_wear 16 (Nat.le_refl _)]
  · rw [if_neg e, if_neg e]
theorem rowC_pg {fl : Fl} {b : Nat} {s : Int} (hs : s = 0 ∨ s = 1) : ∀ p, p < 16 → pgOf { fl with c := rowC fl.c b s } b p = ⟨decide (s ≠ 0), decide (s = 1), []⟩ := fun p hp => by
  rw [← pg_erased (fl := fl) (b := b) hs p hp]
  exact pgOf_congr (fun i hi => by
    show rowC fl.c b s _ = eraseC fl.c b s 16 _
    unfold rowC
    rw [updC_far _ (by have := wear_ne (b := b) (b' := b) hp; omega)])
theorem rowC_other {fl : Fl} {b : Nat} {s : Int} : ∀ b', b' ≠ b → ∀ p, p < 16 → pgOf { fl with c := rowC fl.c b s } b' p = pgOf fl b' p := fun b' hb p hp => by
  refine pg_far (fun i h1 h2 => ?_)
  have h3 : i < b * 4113 ∨ b * 4113 + 4113 ≤ i := by
    rcases Nat.lt_trichotomy b' b with e | e | e
    · left; omega
    · exact absurd e hb
    · right; omega
  unfold rowC
  rw [updC_far _ (by omega), eraseC_far h3 16 (Nat.le_refl _)]
theorem rowC_w {c : Nat → Int} {b : Nat} {s : Int} (b' : Nat) : rowC c b s (b' * 4113 + 4112) = c (b' * 4113 + 4112) := by
  unfold rowC
  by_cases e : b' = b
  · subst e; exact updC_same _
  · rw [updC_far _ (by omega), eraseC_far (by rcases Nat.lt_trichotomy b' b with h | h | h <;> omega) 16 (Nat.le_refl _)]
theorem keep3 {w : World} {q ob wb : Nat} {fl : Fl} (h : IsR w q ob wb fl) : fl.keep = 0 ∨ fl.keep = 1 ∨ fl.keep = 2 := by
  obtain ⟨kr, co, _, hk, _⟩ := h.y
  rw [← hk]
  unfold keepV
  have h1 := Int.tmod_lt_of_pos kr (show (0 : Int) < 3 by decide)
  have h2 := Int.lt_tmod_of_pos kr (show (0 : Int) < 3 by decide)
  have h3 : Int.tmod (Int.tmod kr 3 + 3) 3 = (Int.tmod kr 3 + 3) % 3 := Int.tmod_eq_emod_of_nonneg (by omega)
  rw [h3]
  omega
attribute [local irreducible] rowC eraseC
set_option maxHeartbeats 1000000 in
theorem rerase_ok {w : World} {q ob wb : Nat} {fl : Fl} (h : IsR w q ob wb fl) (hf : 0 ≤ fl.fuse ∧ fl.fuse ≤ 9223372036854775807) {b : Nat} (hb : b < fl.n) (hd : looksE fl (okAt fl b 0) = 0) :
    Calls Try.prog 53 #[.pointer (some ⟨q, 0, none⟩), .int .i64 (b : Int)] w fun e w' => e = .returned (.int .i64 (changeE fl)) ∧ IsR w' q ob wb (changeF fl (eraseC fl.c b 0 16) (eraseC fl.c b 1 16)) ∧ KeepS (fun k => k = q ∨ k = ob ∨ k = wb) w w' := by
  have HL := Lib.hid (rlook_is h b 0)
  rw [hd] at HL
  have HR := Lib.hid h; have HBU := Lib.hid (burn_is h hf); have HBB := Lib.hid hb
  have hn : fl.n ≤ 1024 := h.n2
  have HK3 := Lib.hid (keep3 h)
  have i1 : (b : Int) < (fl.n : Int) := by omega
  have i0 : (0 : Int) ≤ (b : Int) := by omega
  obtain ⟨Z, hZ1, hZ2⟩ := pg_made
  have HZ2 := Lib.hid hZ2
  clear h hd hb hZ2
  obtain ⟨wt, hwt⟩ : ∃ wt, decide (fl.fuse = 1) = wt := ⟨_, rfl⟩
  rw [hwt] at HBU
  have HWT := Lib.hid hwt
  clear hwt hf
  go_enter Try.func53, Try.ntmps53
  go_wp2_with fail
  refine HL.out.mono ?_
  rintro e w0 ⟨rfl, rfl⟩
  go_wp2_with fail
  refine HBU.out.mono ?_
  rintro e w1 ⟨rfl, hI, hk⟩
  have HI1 := Lib.hid hI; have HK1 := Lib.hid hk
  have HN1 := Lib.hid (show (burnF fl).n = fl.n ∧ (burnF fl).c = fl.c ∧ (burnF fl).keep = fl.keep by unfold burnF; split <;> exact ⟨rfl, rfl, rfl⟩)
  obtain ⟨kr1, co1, ⟨d0, d1, _, d3, _⟩, hkr1, hco1⟩ := hI.cells
  rw [HN1.out.1] at d0 d1 hco1
  have HHW := Lib.hid (fun W => how_is kr1 W)
  rw [hkr1, HN1.out.2.2] at HHW
  clear hI hk hkr1 HL HBU
  cases wt with
  | false =>
    have HFE := Lib.hid (show ¬ fl.fuse = 1 from of_decide_eq_false HWT.out)
    go_upto_block 0 with fail
    have HP2 := Lib.hid (HZ2.out w1)
    have hb2 := (Below.refl w1.heap.size w1).alloc (Nat.le_refl _) (.cells Z 90)
    have HB2 := Lib.hid hb2; have HI2 := Lib.hid (HI1.out.below hb2)
    obtain ⟨g2, hg2⟩ : ∃ g2, w1.heap.size = g2 := ⟨_, rfl⟩
    have HG2 := Lib.hid (show w1.heap.size ≤ g2 by omega)
    obtain ⟨w2, hw2⟩ : ∃ V, w1.alloc (.cells Z 90) = V := ⟨_, rfl⟩
    rw [hw2] at HP2 HB2 HI2 ⊢
    rw [hg2] at HP2 ⊢
    clear hw2 hg2 hb2 d0 d1 d3
    obtain ⟨kr2, co2, ⟨d0, d1, _, d3, _⟩, hkr2, hco2⟩ := HI2.out.cells
    rw [HN1.out.1] at d0 d1 hco2
    have HHW2 := Lib.hid (fun W => how_is kr2 W)
    rw [hkr2, HN1.out.2.2] at HHW2
    clear hkr2
    go_wp2_with fail
    go_loopw [8] (fun i W => i = .int .i64 0 ∧ W = w2) (fun i _ => 0)
    case atStart => exact ⟨rfl, rfl⟩
    case round =>
      obtain ⟨rfl, rfl⟩ := hrel
      have HI3 := Lib.hid HI2.out; have HP3 := Lib.hid HP2.out; have HB3 := Lib.hid HB2.out
      clear HI2 HP2 HB2
      obtain ⟨kr4, co4, ⟨f0, f1, _, _, _⟩, _, hco4⟩ := HI3.out.cells
      obtain ⟨v4, f2, _⟩ := HI3.out.row (b := b) (by rw [HN1.out.1]; exact HBB.out)
      have f3 := (HI3.out.fz b).2.1; have f4 := (HI3.out.fz b).2.2
      have f5 := HI3.out.worn (b := b) (by rw [HN1.out.1]; exact HBB.out)
      have f6 := HI3.out.apart
      have f7 : ob ≠ wb := f6.2.2.1
      have f8 : ob ≠ q := fun e => f6.1 e.symm
      have f9 : wb ≠ q := fun e => f6.2.1 e.symm
      rw [HN1.out.1] at f0 f1 hco4
      rw [HN1.out.2.1] at f5
      have h2 := HI3.out.setRow (b := b) (c' := rowC fl.c b 0) (by rw [HN1.out.1]; exact HBB.out) (HP3.out.congr (fun p' hp' => (rowC_pg (fl := fl) (b := b) (s := 0) (by decide) p' hp').trans (by rfl))) (fun b' _ hb' p' hp' => by
        have e : pgOf (burnF fl) b' p' = pgOf fl b' p' := by unfold pgOf pgL; rw [HN1.out.2.1]
        rw [e]
        exact rowC_other b' hb' p' hp') (fun b' _ => by rw [HN1.out.2.1]; exact rowC_w b')
      have hz := h2.setWear (b := b) (by show b < (burnF fl).n; rw [HN1.out.1]; exact HBB.out) (wrap64 (fl.c (b * 4113 + 4112) + 1))
      have HZ := Lib.hid hz
      clear h2 hz d0 d1 d3
      go_wp2_with fail
      go_ret
      refine ⟨?_, ?_, ?_⟩
      · rw [show changeE fl = 0 by unfold changeE; rw [if_neg HFE.out]]
        try rfl
      · rw [changeF_burn, if_neg HFE.out, ← rowC_wear]
        exact HZ.out
      · exact (((HK1.out.mono (fun _ e => .inl e)).then_below HB3.out).set (p := ⟨ob, b, none⟩) (.inl (.inr (.inl rfl))) _).set (p := ⟨wb, b, none⟩) (.inl (.inr (.inr rfl))) _
  | true =>
    have HFE := Lib.hid (show fl.fuse = 1 from of_decide_eq_true HWT.out)
    rcases HK3.out with hk | hk | hk
    · have HKP := Lib.hid hk
      rw [hk] at HHW
      clear hk
      go_wp2_with fail
      refine (HHW.out _).mono ?_
      rintro e w1' ⟨rfl, rfl⟩
      go_wp2_with fail
      go_ret
      refine ⟨?_, ?_, HK1.out.mono (fun _ e => .inl e)⟩
      · rw [show changeE fl = 7 by unfold changeE; rw [if_pos HFE.out]]
        try rfl
      · rw [changeF_burn, if_pos HFE.out, if_neg (by rw [HKP.out]; decide), if_neg (by rw [HKP.out]; decide), ← HN1.out.2.1]
        exact HI1.out
    · have HKP := Lib.hid hk
      rw [hk] at HHW
      go_wp2_with fail
      refine (HHW.out _).mono ?_
      rintro e w1' ⟨rfl, rfl⟩
      go_upto_block 0 with fail
      have HP2 := Lib.hid (HZ2.out w1')
      have hb2 := (Below.refl w1'.heap.size w1').alloc (Nat.le_refl _) (.cells Z 90)
      have HB2 := Lib.hid hb2; have HI2 := Lib.hid (HI1.out.below hb2)
      obtain ⟨g2, hg2⟩ : ∃ g2, w1'.heap.size = g2 := ⟨_, rfl⟩
      have HG2 := Lib.hid (show w1'.heap.size ≤ g2 by omega)
      obtain ⟨w2, hw2⟩ : ∃ V, w1'.alloc (.cells Z 90) = V := ⟨_, rfl⟩
      rw [hw2] at HP2 HB2 HI2 ⊢
      rw [hg2] at HP2 ⊢
      clear hw2 hg2 hb2 d0 d1 d3
      obtain ⟨kr2, co2, ⟨d0, d1, _, d3, _⟩, hkr2, hco2⟩ := HI2.out.cells
      rw [HN1.out.1] at d0 d1 hco2
      have HHW2 := Lib.hid (fun W => how_is kr2 W)
      rw [hkr2, HN1.out.2.2] at HHW2
      clear hkr2
      rw [hk] at HHW2
      clear hk
      go_wp2_with fail
      go_loopw [8] (fun i W => ∃ j : Nat, i = .int .i64 (j : Int) ∧ j ≤ 16 ∧ PgRow W (.slice (some ⟨g2, 0, none⟩) 16 16) (fun p => if p < j then ⟨true, true, []⟩ else zPg) ∧ Below w1'.heap.size w1' W) (fun i _ => 16 - (intOf i).toNat)
      case atStart => exact ⟨0, rfl, by omega, HP2.out.congr (fun p _ => by simp), HB2.out⟩
      case round =>
        obtain ⟨j, rfl, hj, hP, hB⟩ := hrel
        have HPr := Lib.hid hP; have HBr := Lib.hid hB; have HIr := Lib.hid (HI1.out.below hB)
        clear hP hB d0 d1 d3
        obtain ⟨kr3, co3, ⟨d0, d1, _, d3, _⟩, hkr3, hco3⟩ := HIr.out.cells
        rw [HN1.out.1] at d0 d1 hco3
        have HHW3 := Lib.hid (fun W => how_is kr3 W)
        rw [hkr3, HN1.out.2.2, HKP.out] at HHW3
        clear hkr3
        by_cases hlt : j < 16
        · have q1 : decide (j < 16) = true := decide_eq_true hlt
          have q2 : decide ((j : Int) < 16) = true := decide_eq_true (by omega)
          have HLT := Lib.hid hlt
          have i2 : (j : Int) < 16 := by omega
          obtain ⟨g2', cap2', curx, hex, _, hhx, hcx⟩ := HPr.out
          have hgx : wr.heap[g2]? = some (.cells curx 90 (0, 0)) := by injection hex with e1 _ _; injection e1 with e1; injection e1 with e1; subst e1; exact hhx
          obtain ⟨x0, x1, bx, x2, _⟩ := hcx j hlt
          have y0 : wr.cell? ⟨g2, j * 3, none⟩ = some _ := (blk_cell hgx (j * 3)).trans x0
          have y1 : wr.cell? ⟨g2, j * 3 + 1, none⟩ = some _ := (blk_cell hgx (j * 3 + 1)).trans x1
          have y2 : wr.cell? ⟨g2, j * 3 + 2, none⟩ = some _ := (blk_cell hgx (j * 3 + 2)).trans x2
          have z0 := blk_frozen hgx (j * 3); have z1 := blk_frozen hgx (j * 3 + 1); have z2 := blk_frozen hgx (j * 3 + 2)
          clear hex hhx hcx x0 x1 x2 hgx hlt
          go_wp2_with fail
          refine (HHW3.out _).mono ?_
          rintro e wr' ⟨rfl, rfl⟩
          go_wp2_with fail
          have hPz := HPr.out.put HLT.out (x := ⟨true, true, []⟩) (bv := .slice none 0 0) (.inl ⟨rfl, rfl⟩)
          have hBz := ((HBr.out.setCell (p := ⟨g2, j * 3, none⟩) HG2.out (.bool true)).setCell (p := ⟨g2, j * 3 + 1, none⟩) HG2.out (.bool true)).setCell (p := ⟨g2, j * 3 + 2, none⟩) HG2.out (.slice none 0 0)
          dsimp only at hPz
          have HPz := Lib.hid hPz; have HBz := Lib.hid hBz
          clear hPz hBz
          go_roundw
          case rel => exact ⟨j + 1, by go_num, HLT.out, HPz.out.congr (fun p hp => by unfold updP; dsimp only; by_cases e : p = j; subst e; simp; by_cases e2 : p < j; rw [if_pos (by omega), if_neg e, if_pos e2]; rw [if_neg (by omega), if_neg e, if_neg e2]), HBz.out⟩
          case measure => have := HLT.out; simp [intOf]; omega
        · have q1 : decide (j < 16) = false := decide_eq_false hlt
          have q2 : decide ((j : Int) < 16) = false := decide_eq_false (by omega)
          have HI3 := Lib.hid HIr.out; have HP3 := Lib.hid (HPr.out.congr (L' := fun _ => ⟨true, true, []⟩) (fun p hp => (if_pos (show p < j by omega)).symm)); have HB3 := Lib.hid HBr.out
          clear HIr HPr HBr hlt
          obtain ⟨kr4, co4, ⟨f0, f1, _, _, _⟩, _, hco4⟩ := HI3.out.cells
          obtain ⟨v4, f2, _⟩ := HI3.out.row (b := b) (by rw [HN1.out.1]; exact HBB.out)
          have f3 := (HI3.out.fz b).2.1; have f4 := (HI3.out.fz b).2.2
          have f5 := HI3.out.worn (b := b) (by rw [HN1.out.1]; exact HBB.out)
          have f6 := HI3.out.apart
          have f7 : ob ≠ wb := f6.2.2.1
          have f8 : ob ≠ q := fun e => f6.1 e.symm
          have f9 : wb ≠ q := fun e => f6.2.1 e.symm
          rw [HN1.out.1] at f0 f1 hco4
          rw [HN1.out.2.1] at f5
          have h2 := HI3.out.setRow (b := b) (c' := rowC fl.c b 1) (by rw [HN1.out.1]; exact HBB.out) (HP3.out.congr (fun p' hp' => (rowC_pg (fl := fl) (b := b) (s := 1) (by decide) p' hp').trans (by rfl))) (fun b' _ hb' p' hp' => by
            have e : pgOf (burnF fl) b' p' = pgOf fl b' p' := by unfold pgOf pgL; rw [HN1.out.2.1]
            rw [e]
            exact rowC_other b' hb' p' hp') (fun b' _ => by rw [HN1.out.2.1]; exact rowC_w b')
          have hz := h2.setWear (b := b) (by show b < (burnF fl).n; rw [HN1.out.1]; exact HBB.out) (wrap64 (fl.c (b * 4113 + 4112) + 1))
          have HZ := Lib.hid hz
          clear h2 hz d0 d1 d3
          go_wp2_with fail
          go_ret
          refine ⟨?_, ?_, ?_⟩
          · rw [show changeE fl = 7 by unfold changeE; rw [if_pos HFE.out]]
            try rfl
          · rw [changeF_burn, if_pos HFE.out, if_pos HKP.out, ← rowC_wear]
            exact HZ.out
          · exact (((HK1.out.mono (fun _ e => .inl e)).then_below HB3.out).set (p := ⟨ob, b, none⟩) (.inl (.inr (.inl rfl))) _).set (p := ⟨wb, b, none⟩) (.inl (.inr (.inr rfl))) _
    · have HKP := Lib.hid hk
      rw [hk] at HHW
      go_wp2_with fail
      refine (HHW.out _).mono ?_
      rintro e w1' ⟨rfl, rfl⟩
      go_upto_block 0 with fail
      have HP2 := Lib.hid (HZ2.out w1')
      have hb2 := (Below.refl w1'.heap.size w1').alloc (Nat.le_refl _) (.cells Z 90)
      have HB2 := Lib.hid hb2; have HI2 := Lib.hid (HI1.out.below hb2)
      obtain ⟨g2, hg2⟩ : ∃ g2, w1'.heap.size = g2 := ⟨_, rfl⟩
      have HG2 := Lib.hid (show w1'.heap.size ≤ g2 by omega)
      obtain ⟨w2, hw2⟩ : ∃ V, w1'.alloc (.cells Z 90) = V := ⟨_, rfl⟩
      rw [hw2] at HP2 HB2 HI2 ⊢
      rw [hg2] at HP2 ⊢
      clear hw2 hg2 hb2 d0 d1 d3
      obtain ⟨kr2, co2, ⟨d0, d1, _, d3, _⟩, hkr2, hco2⟩ := HI2.out.cells
      rw [HN1.out.1] at d0 d1 hco2
      have HHW2 := Lib.hid (fun W => how_is kr2 W)
      rw [hkr2, HN1.out.2.2] at HHW2
      clear hkr2
      rw [hk] at HHW2
      clear hk
      go_wp2_with fail
      go_loopw [8] (fun i W => i = .int .i64 0 ∧ W = w2) (fun i _ => 0)
      case atStart => exact ⟨rfl, rfl⟩
      case round =>
        obtain ⟨rfl, rfl⟩ := hrel
        go_wp2_with fail
        refine (HHW2.out _).mono ?_
        rintro e w2' ⟨rfl, rfl⟩
        have HI3 := Lib.hid HI2.out; have HP3 := Lib.hid HP2.out; have HB3 := Lib.hid HB2.out
        clear HI2 HP2 HB2
        obtain ⟨kr4, co4, ⟨f0, f1, _, _, _⟩, _, hco4⟩ := HI3.out.cells
        obtain ⟨v4, f2, _⟩ := HI3.out.row (b := b) (by rw [HN1.out.1]; exact HBB.out)
        have f3 := (HI3.out.fz b).2.1; have f4 := (HI3.out.fz b).2.2
        have f5 := HI3.out.worn (b := b) (by rw [HN1.out.1]; exact HBB.out)
        have f6 := HI3.out.apart
        have f7 : ob ≠ wb := f6.2.2.1
        have f8 : ob ≠ q := fun e => f6.1 e.symm
        have f9 : wb ≠ q := fun e => f6.2.1 e.symm
        rw [HN1.out.1] at f0 f1 hco4
        rw [HN1.out.2.1] at f5
        have h2 := HI3.out.setRow (b := b) (c' := rowC fl.c b 0) (by rw [HN1.out.1]; exact HBB.out) (HP3.out.congr (fun p' hp' => (rowC_pg (fl := fl) (b := b) (s := 0) (by decide) p' hp').trans (by rfl))) (fun b' _ hb' p' hp' => by
          have e : pgOf (burnF fl) b' p' = pgOf fl b' p' := by unfold pgOf pgL; rw [HN1.out.2.1]
          rw [e]
          exact rowC_other b' hb' p' hp') (fun b' _ => by rw [HN1.out.2.1]; exact rowC_w b')
        have hz := h2.setWear (b := b) (by show b < (burnF fl).n; rw [HN1.out.1]; exact HBB.out) (wrap64 (fl.c (b * 4113 + 4112) + 1))
        have HZ := Lib.hid hz
        clear h2 hz d0 d1 d3
        go_wp2_with fail
        go_ret
        refine ⟨?_, ?_, ?_⟩
        · rw [show changeE fl = 7 by unfold changeE; rw [if_pos HFE.out]]
          try rfl
        · rw [changeF_burn, if_pos HFE.out, if_neg (by rw [HKP.out]; decide), if_pos HKP.out, ← rowC_wear]
          exact HZ.out
        · exact (((HK1.out.mono (fun _ e => .inl e)).then_below HB3.out).set (p := ⟨ob, b, none⟩) (.inl (.inr (.inl rfl))) _).set (p := ⟨wb, b, none⟩) (.inl (.inr (.inr rfl))) _
end Go.Proofs.Ytandhpnpodkemaa.M
end

section
/- The reference's Erase, all cases; what its Spoil wants. -/
set_option linter.unusedVariables false
set_option linter.unusedSimpArgs false
set_option maxRecDepth 100000
namespace Go.Proofs.Ytandhpnpodkemaa.M
open Go.RowKit Go.Proofs.YtandhpnpodkemaaW.PrintWords Go.Proofs.YtandhpnpodkemaaW.PrintLast
attribute [local irreducible] eraseC
theorem rerase_is {w : World} {q ob wb : Nat} {fl : Fl} (h : IsR w q ob wb fl) (hf : 0 ≤ fl.fuse ∧ fl.fuse ≤ 9223372036854775807) (b : Int) :
    Calls Try.prog 53 #[.pointer (some ⟨q, 0, none⟩), .int .i64 b] w fun e w' => e = .returned (.int .i64 (eraseE fl b)) ∧ IsR w' q ob wb (eraseF fl b) ∧ KeepS (fun k => k = q ∨ k = ob ∨ k = wb) w w' := by
  have HL := Lib.hid (rlook_is h b 0)
  have HR := Lib.hid h
  have hok : okAt fl b 0 = isB fl b := by unfold okAt isB; simp
  obtain ⟨x, hx⟩ : ∃ x, looksE fl (okAt fl b 0) = x := ⟨_, rfl⟩
  rw [hx] at HL
  by_cases h0 : x = 0
  · subst h0
    have hx' := hx
    rw [hok] at hx'
    obtain ⟨b0, b1⟩ := isB_of hx'
    obtain ⟨b, rfl⟩ : ∃ k : Nat, b = (k : Int) := ⟨b.toNat, by omega⟩
    have e1 : eraseE fl (b : Int) = changeE fl := by unfold eraseE; rw [if_pos hx']
    have e2 : eraseF fl (b : Int) = changeF fl (eraseC fl.c b 0 16) (eraseC fl.c b 1 16) := by unfold eraseF; rw [if_pos hx', Int.toNat_natCast]
    rw [e1, e2]
    exact rerase_ok h hf (by omega) hx
  · have hx' := hx
    rw [hok] at hx'
    have e1 : eraseE fl b = x := by unfold eraseE; rw [if_neg (by rw [hx']; exact h0), hx']
    have e2 : eraseF fl b = fl := by unfold eraseF; rw [if_neg (by rw [hx']; exact h0)]
    rw [e1, e2]
    have q1 : (x != 0) = true := bne_iff_ne.2 h0
    clear h hx hx' e1 e2 hok hf h0
    go_enter Try.func53, Try.ntmps53
    go_wp2_with fail
    refine HL.out.mono ?_
    rintro e w0 ⟨rfl, rfl⟩
    go_wp2_with fail
    go_ret
    exact ⟨rfl, HR.out, KeepS.refl _ _⟩
theorem BRow.put {w : World} {bb cb n : Nat} {l : List Int} (h : BRow w (.slice (some ⟨bb, 0, none⟩) n cb) l) {i : Nat} (hi : i < l.length) (y : Int) : BRow (w.setCell ⟨bb, i, none⟩ (.int .u8 y)) (.slice (some ⟨bb, 0, none⟩) n cb) (l.set i y) := by
  rcases h with ⟨e, _⟩ | ⟨bb', cb', cur, e, h1, h2, h3, h4⟩
  · cases e
  · injection e with e1 e2 e3
    injection e1 with e1
    injection e1 with e1
    subst e1; subst e3
    refine .inr ⟨bb, cb, _, by rw [List.length_set, e2], by rw [List.length_set]; exact h1, by rw [List.length_set]; exact h2, put_heap h3, fun j x hx => ?_⟩
    by_cases ej : j = i
    · subst ej
      rw [List.getElem?_set_self hi] at hx
      injection hx with hx
      have hs : j < cur.size := by
        have := h4 j l[j] (List.getElem?_eq_getElem hi)
        exact (Array.getElem?_eq_some_iff.1 this).1
      rw [Array.getElem?_setIfInBounds_self_of_lt hs, hx]
    · rw [List.getElem?_set_ne (fun e => ej e.symm)] at hx
      rw [Array.getElem?_setIfInBounds_ne (fun e => ej e.symm)]
      exact h4 j x hx
theorem PgRow.putB {w : World} {g cap p : Nat} {L : Nat → PgD} (h : PgRow w (.slice (some ⟨g, 0, none⟩) 16 cap) L) (hp : p < 16) {l : List Int} {bv : Value} (hb : BRow w bv l) :
    PgRow (w.setCell ⟨g, p * 3 + 2, none⟩ bv) (.slice (some ⟨g, 0, none⟩) 16 cap) (updP L p ⟨(L p).has, (L p).torn, l⟩) := by
  obtain ⟨g', cap', cur, e, h1, h2, h3⟩ := h
  injection e with e1 e2 e3
  injection e1 with e1
  injection e1 with e1
  subst e1; subst e3
  have hB : ∀ {bv' : Value} {l : List Int}, BRow w bv' l → BRow (w.setCell ⟨g, p * 3 + 2, none⟩ bv) bv' l := fun {bv' l} hb => by
    rcases hb with hb | ⟨bb, cb, cu, e, k1, k2, k3, k4⟩
    · exact .inl hb
    · exact .inr ⟨bb, cb, cu, e, k1, k2, by rw [Below.heap_setCell _ _ _ bb (blk_ne k3 h2 (by decide))]; exact k3, k4⟩
  refine ⟨g, cap, _, rfl, h1, put_heap h2, fun i hi => ?_⟩
  obtain ⟨a, b, u, c, d⟩ := h3 i hi
  by_cases hip : i = p
  · subst hip
    simp only [updP, if_pos]
    refine ⟨by rw [Array.getElem?_setIfInBounds_ne (by omega)]; exact a, by rw [Array.getElem?_setIfInBounds_ne (by omega)]; exact b, bv, ?_, hB hb⟩
    rw [Array.getElem?_setIfInBounds_self_of_lt (Array.getElem?_eq_some_iff.1 c).1]
  · simp only [updP, if_neg hip]
    exact ⟨by rw [Array.getElem?_setIfInBounds_ne (by omega)]; exact a, by rw [Array.getElem?_setIfInBounds_ne (by omega)]; exact b, u, by rw [Array.getElem?_setIfInBounds_ne (by omega)]; exact c, hB d⟩
theorem pg_spoilt {fl : Fl} {b p i : Nat} (hp : p < 16) (hi : i < 256) (ha : atE fl b p = 0) (y : Int) : ∀ p', p' < 16 → pgOf { fl with c := updC fl.c (b * 4113 + p * 257 + 1 + i) y } b p' = updP (pgOf fl b) p ⟨(pgOf fl b p).has, (pgOf fl b p).torn, (pgL fl b p).set i y⟩ p' := fun p' hp' => by
  unfold updP
  by_cases e : p' = p
  · subst e
    rw [if_pos rfl]
    have e1 : updC fl.c (b * 4113 + p' * 257 + 1 + i) y (b * 4113 + p' * 257) = fl.c (b * 4113 + p' * 257) := updC_far _ (by omega)
    have e2 : pgL { fl with c := updC fl.c (b * 4113 + p' * 257 + 1 + i) y } b p' = (pgL fl b p').set i y := by
      apply List.ext_getElem?
      intro j
      unfold pgL
      by_cases hj : j < 256
      · by_cases ej : j = i
        · subst ej
          rw [List.getElem?_set_self (by simp; exact hj), List.getElem?_map, List.getElem?_range hj, Option.map_some]
          show some (updC _ _ _ _) = _
          rw [updC_same]
        · rw [List.getElem?_set_ne (fun e => ej e.symm), List.getElem?_map, List.getElem?_map, List.getElem?_range hj, Option.map_some, Option.map_some]
          show some (updC _ _ _ _) = _
          rw [updC_far _ (by omega)]
      · rw [List.getElem?_eq_none (by simp; omega), List.getElem?_eq_none (by simp; omega)]
    have h01 : ¬ (fl.c (b * 4113 + p' * 257) = 0 ∨ fl.c (b * 4113 + p' * 257) = 1) := by
      unfold atE at ha
      rintro (h | h)
      · rw [if_pos h] at ha; cases ha
      · rw [if_neg (by omega), if_pos h] at ha; cases ha
    simp only [pgOf, e1, e2]
    rw [if_neg h01]
  · rw [if_neg e]
    exact pg_far (fun j h1 h2 => updC_far _ (by have := st_ne (b := b) (b' := b) hp hp' (.inr e); omega))
end Go.Proofs.Ytandhpnpodkemaa.M
end

section
/- The reference's Spoil. -/
set_option linter.unusedVariables false
set_option linter.unusedSimpArgs false
set_option maxRecDepth 100000
namespace Go.Proofs.Ytandhpnpodkemaa.M
open Go.RowKit Go.Proofs.YtandhpnpodkemaaW.PrintWords Go.Proofs.YtandhpnpodkemaaW.PrintLast
set_option maxHeartbeats 2000000 in
theorem rspoil_ok {w : World} {q ob wb : Nat} {fl : Fl} (h : IsR w q ob wb fl) {b p i : Nat} (hb : b < fl.n) (hp : p < 16) (hi : i < 256) (hd : looksE fl (okAt fl b p) = 0) (ha : atE fl b p = 0) (x : Int) :
    Calls Try.prog 57 #[.pointer (some ⟨q, 0, none⟩), .int .i64 (b : Int), .int .i64 (p : Int), .int .i64 (i : Int), .int .u8 x] w fun e w' => e = .returned (.int .i64 0) ∧
      IsR w' q ob wb { fl with c := updC fl.c (b * 4113 + p * 257 + 1 + i) (Go.bits .xor .u8 (fl.c (b * 4113 + p * 257 + 1 + i)) x) } ∧ KeepS (fun k => k = q ∨ k = ob ∨ k = wb) w w' := by
  have HL := Lib.hid (rlook_is h b p)
  rw [hd] at HL
  have HA := Lib.hid (rat_is h hb hp)
  rw [ha] at HA
  have HR := Lib.hid h; have HBB := Lib.hid (And.intro hb (And.intro hp hi)); have HAT := Lib.hid ha
  have hn : fl.n ≤ 1024 := h.n2
  have i1 : (b : Int) < (fl.n : Int) := by omega
  have i0 : (0 : Int) ≤ (b : Int) := by omega
  have i2 : (p : Int) < 16 := by omega
  have i3 : (0 : Int) ≤ (p : Int) := by omega
  have i4 : (i : Int) < 256 := by omega
  have i5 : (0 : Int) ≤ (i : Int) := by omega
  have q1 : decide ((i : Int) < 0) = false := decide_eq_false (by omega)
  have q2 : decide (256 ≤ (i : Int)) = false := decide_eq_false (by omega)
  have q3 : decide (256 ≤ i) = false := decide_eq_false (by omega)
  clear h hd hb hp hi ha
  go_enter Try.func57, Try.ntmps57
  go_wp2_with fail
  refine HL.out.mono ?_
  rintro e w0 ⟨rfl, rfl⟩
  go_wp2_with fail
  refine HA.out.mono ?_
  rintro e w1 ⟨rfl, hb1⟩
  have HB1 := Lib.hid hb1; have HI1 := Lib.hid (HR.out.below hb1)
  obtain ⟨kr1, co1, ⟨d0, _, _, _, _⟩, _, hco1⟩ := (HR.out.below hb1).cells
  obtain ⟨g1, cap1, bv1, s0, hcap1, hpr1, _, _, s2, hB1⟩ := (HR.out.below hb1).page HBB.out.1 HBB.out.2.1
  have HBR := Lib.hid hB1
  obtain ⟨A1, c1, rfl, _, _, _⟩ := hB1.reads
  have hbl : (pgOf fl b p).b = pgL fl b p := pgOf_b HAT.out
  rw [hbl] at HBR s2
  have hl256 : (pgL fl b p).length = 256 := by simp [pgL]
  rw [hl256] at s2 HBR
  obtain ⟨A1', c1', he1, hcc1, _, hC1⟩ := HBR.out.reads
  rw [hl256] at he1 hC1
  injection he1 with he1 _ he3
  subst he1; subst he3
  have HC1 := Lib.hid hC1; have HL256 := Lib.hid hl256
  clear hb1 hpr1 hB1 hbl hl256 hC1 hcc1 HL HA
  go_upto_region 10 with ((with_reducible refine gate_builtin (b := .append) (xs := #[.const (.slice none 0 0), .tmp 45]) rfl ?_); at_builtin; refine Kd.R_append_rows (Kd.int .u8) (w0 := w1) w1.heap.size rfl (.const (.slice none 0 0)) (.tmp 45) 29 5 (.int .u8 0) 1 rfl Try.underlying29 infoU8 rfl (by decide) (by omega) _ ([] : List Int) (pgL fl b p) _ _ _ (fun _ => True) (fun _ => False) rfl rfl (Kd.R_nil _ _ _ _ _) HC1.out (fun _ _ h => h) (fun _ h => h.elim) (fun _ _ => trivial) (Below.refl _ _) (Nat.le_refl _) (by simp) ?_; intro v2 w2 ho hb _ _; have HO2 := Lib.hid (show Own w2 w1.heap.size v2 (pgL fl b p) from ho); have HB2 := Lib.hid hb; clear ho hb)
  have HBW := Lib.hid (BRow.of HO2.out (by rw [HL256.out]; decide) (by rw [HL256.out]; exact Nat.le_refl _))
  obtain ⟨bb, cb, curb, rfl, hcb, _, hhb, hxb⟩ : ∃ bb cb curb, v2 = .slice (some ⟨bb, 0, none⟩) (pgL fl b p).length cb ∧ (pgL fl b p).length ≤ cb ∧ (pgL fl b p).length ≤ 256 ∧ w2.heap[bb]? = some (.cells curb 5 (0, 0)) ∧ ∀ (i : Nat) (x : Int), (pgL fl b p)[i]? = some x → curb[i]? = some (.int .u8 x) := by
    rcases HBW.out with ⟨_, e⟩ | h9
    · have := HL256.out; rw [e] at this; cases this
    · exact h9
  have HNW := Lib.hid (show w1.heap.size ≤ bb by
    obtain ⟨g9, c9, e9, h9, _⟩ := Kd.R_form HO2.out (by rw [HL256.out]; decide)
    injection e9 with e9 _ _
    injection e9 with e9
    injection e9 with e9
    omega)
  have hxi : (pgL fl b p)[i]? = some (fl.c (b * 4113 + p * 257 + 1 + i)) := by
    unfold pgL
    rw [List.getElem?_map, List.getElem?_range HBB.out.2.2]
    rfl
  have t0 : w2.cell? ⟨bb, i, none⟩ = some (.int .u8 (fl.c (b * 4113 + p * 257 + 1 + i))) := (blk_cell hhb i).trans (hxb i _ hxi)
  have t1 := blk_frozen hhb i
  rw [HL256.out] at HBW hcb ⊢
  clear hhb hxb hxi HO2 d0 s0 s2 hcap1 hco1
  obtain ⟨vx, hvx⟩ : ∃ vx, fl.c (b * 4113 + p * 257 + 1 + i) = vx := ⟨_, rfl⟩
  rw [hvx] at t0
  have HVX := Lib.hid hvx
  clear hvx
  go_upto_region 11 with fail
  obtain ⟨y, hy⟩ : ∃ y, Go.bits .xor .u8 vx x = y := ⟨_, rfl⟩
  have HP3 := Lib.hid (HBW.out.put (i := i) (by rw [HL256.out]; exact HBB.out.2.2) y)
  have HB3 := Lib.hid (HB2.out.setCell (p := ⟨bb, i, none⟩) HNW.out (.int .u8 y))
  try rw [hy]
  have HY := Lib.hid hy
  obtain ⟨w3, hw3⟩ : ∃ V, w2.setCell ⟨bb, i, none⟩ (.int .u8 y) = V := ⟨_, rfl⟩
  rw [hw3] at HP3 HB3 ⊢
  have HI3 := Lib.hid (HI1.out.below HB3.out)
  clear hw3 hy t0 t1
  obtain ⟨kr3, co3, ⟨d0, _, _, _, _⟩, _, hco3⟩ := HI3.out.cells
  obtain ⟨g3, cap3, bv3, s0, hcap3, hpr3, _, _, _, _⟩ := HI3.out.page HBB.out.1 HBB.out.2.1
  have HPR := Lib.hid hpr3
  clear hpr3
  go_upto_region 12 with ((with_reducible refine gate_builtin (b := .append) (xs := #[.const (.slice none 0 0), .tmp 60]) rfl ?_); at_builtin; refine pg_append rfl (.tmp 60) rfl rfl HPR.out ?_; intro g4 cap4 w4 hP hc4 hg4 hb4; have HP4 := Lib.hid hP; have HG4 := Lib.hid hg4; have HB4 := Lib.hid hb4; clear hP hg4 hb4)
  have HBY := Lib.hid (HP3.out.below HB4.out)
  have HBX := Lib.hid (HB3.out.trans (HB4.out.mono HB3.out.size))
  obtain ⟨g2', cap2', curx, hex, _, hhx, hcx⟩ := HP4.out
  have hgx : w4.heap[g4]? = some (.cells curx 90 (0, 0)) := by injection hex with e1 _ _; injection e1 with e1; injection e1 with e1; subst e1; exact hhx
  obtain ⟨x0, x1, bx, x2, _⟩ := hcx p HBB.out.2.1
  have y2 : w4.cell? ⟨g4, p * 3 + 2, none⟩ = some _ := (blk_cell hgx (p * 3 + 2)).trans x2
  have z2 := blk_frozen hgx (p * 3 + 2)
  have HPz := Lib.hid (HP4.out.putB HBB.out.2.1 HBY.out)
  have HBz := Lib.hid (HBX.out.setCell (p := ⟨g4, p * 3 + 2, none⟩) (Nat.le_trans HB3.out.size HG4.out) (.slice (some ⟨bb, 0, none⟩) 256 cb))
  clear hex hhx hcx x0 x1 x2 hgx d0 s0 hco3 hcap3
  go_upto_region 13 with fail
  obtain ⟨w5, hw5⟩ : ∃ V, w4.setCell ⟨g4, p * 3 + 2, none⟩ (.slice (some ⟨bb, 0, none⟩) 256 cb) = V := ⟨_, rfl⟩
  rw [hw5] at HPz HBz ⊢
  have HI5 := Lib.hid (HI1.out.below HBz.out)
  clear hw5 y2 z2
  obtain ⟨kr5, co5, ⟨f0, _, _, _, _⟩, _, hco5⟩ := HI5.out.cells
  obtain ⟨v5, f1, _⟩ := HI5.out.row HBB.out.1
  have f2 := (HI5.out.fz b).2.1
  have hz := HI5.out.setRow (c' := updC fl.c (b * 4113 + p * 257 + 1 + i) y) HBB.out.1 (HPz.out.congr (fun p' hp' => pg_spoilt HBB.out.2.1 HBB.out.2.2 HAT.out y p' hp')) (fun b' _ hb' p' hp' => pg_far (fun j h1 h2 => updC_far _ (by have := st_ne (b := b) (b' := b') HBB.out.2.1 hp' (.inl hb'); have := HBB.out.2.2; omega))) (fun b' _ => updC_far _ (by have := wear_ne (b := b) (b' := b') HBB.out.2.1; have := HBB.out.2.2; omega))
  have HZ := Lib.hid hz
  clear hz
  go_wp2_with fail
  go_ret
  rw [HVX.out, HY.out]
  exact ⟨rfl, HZ.out, ((KeepS.of_below _ HB1.out).then_below HBz.out).set (p := ⟨ob, b, none⟩) (.inl (.inr (.inl rfl))) _⟩
end Go.Proofs.Ytandhpnpodkemaa.M
end

section
/- The reference's Spoil, all cases. -/
set_option linter.unusedVariables false
set_option linter.unusedSimpArgs false
set_option maxRecDepth 100000
namespace Go.Proofs.Ytandhpnpodkemaa.M
open Go.RowKit Go.Proofs.YtandhpnpodkemaaW.PrintWords Go.Proofs.YtandhpnpodkemaaW.PrintLast
theorem rspoil_is {w : World} {q ob wb : Nat} {fl : Fl} (h : IsR w q ob wb fl) (b p i x : Int) :
    Calls Try.prog 57 #[.pointer (some ⟨q, 0, none⟩), .int .i64 b, .int .i64 p, .int .i64 i, .int .u8 x] w fun e w' => e = .returned (.int .i64 (spoilE fl b p i)) ∧ IsR w' q ob wb (spoilF fl b p i x) ∧ KeepS (fun k => k = q ∨ k = ob ∨ k = wb) w w' := by
  have HL := Lib.hid (rlook_is h b p)
  have HR := Lib.hid h
  have hn : fl.n ≤ 1024 := h.n2
  obtain ⟨z, hz⟩ : ∃ z, looksE fl (okAt fl b p) = z := ⟨_, rfl⟩
  rw [hz] at HL
  by_cases h0 : z = 0
  · subst h0
    obtain ⟨b0, b1, b2, b3⟩ := okAt_of hz
    obtain ⟨b, rfl⟩ : ∃ k : Nat, b = (k : Int) := ⟨b.toNat, by omega⟩
    obtain ⟨p, rfl⟩ : ∃ k : Nat, p = (k : Int) := ⟨p.toNat, by omega⟩
    have hb : b < fl.n := by omega
    have hp : p < 16 := by omega
    by_cases hi : 0 ≤ i ∧ i < 256
    · obtain ⟨i, rfl⟩ : ∃ k : Nat, i = (k : Int) := ⟨i.toNat, by omega⟩
      have hoks : looksE fl (okS fl (b : Int) (p : Int) (i : Int)) = 0 := by
        have : okS fl (b : Int) (p : Int) (i : Int) = okAt fl (b : Int) (p : Int) := by unfold okS; rw [decide_eq_true hi.1, decide_eq_true hi.2]; simp
        rw [this]; exact hz
      have e0 : spoilE fl (b : Int) (p : Int) (i : Int) = atE fl b p := by unfold spoilE; rw [if_pos hoks, Int.toNat_natCast, Int.toNat_natCast]
      by_cases ha : atE fl b p = 0
      · have e1 : spoilE fl (b : Int) (p : Int) (i : Int) = 0 := e0.trans ha
        have e2 : spoilF fl (b : Int) (p : Int) (i : Int) x = { fl with c := updC fl.c (b * 4113 + p * 257 + 1 + i) (Go.bits .xor .u8 (fl.c (b * 4113 + p * 257 + 1 + i)) x) } := by
          unfold spoilF; rw [if_pos e1, Int.toNat_natCast, Int.toNat_natCast, Int.toNat_natCast]
        rw [e1, e2]
        exact rspoil_ok h hb hp (by omega) hz ha x
      · have e2 : spoilF fl (b : Int) (p : Int) (i : Int) x = fl := by unfold spoilF; rw [if_neg (by rw [e0]; exact ha)]
        rw [e0, e2]
        have HA := Lib.hid (rat_is h hb hp)
        obtain ⟨r, hr⟩ : ∃ r, atE fl b p = r := ⟨_, rfl⟩
        rw [hr] at HA ha ⊢
        have q0 : (r != 0) = true := bne_iff_ne.2 ha
        have q1 : decide ((i : Int) < 0) = false := decide_eq_false (by omega)
        have q2 : decide (256 ≤ (i : Int)) = false := decide_eq_false (by omega)
        have q3 : decide (256 ≤ i) = false := decide_eq_false (by omega)
        clear h hz hoks e0 e2 hr ha hi b0 b1 b2 b3 hb hp
        go_enter Try.func57, Try.ntmps57
        go_wp2_with fail
        refine HL.out.mono ?_
        rintro e w0 ⟨rfl, rfl⟩
        go_wp2_with fail
        refine HA.out.mono ?_
        rintro e w1 ⟨rfl, hb1⟩
        have HB1 := Lib.hid hb1
        clear hb1
        go_wp2_with fail
        go_ret
        exact ⟨rfl, HR.out.below HB1.out, KeepS.of_below _ HB1.out⟩
    · have hoks : looksE fl (okS fl (b : Int) (p : Int) i) = 1 := by
        have : okS fl (b : Int) (p : Int) i = false := by
          unfold okS
          rcases Int.lt_or_le i 0 with h1 | h1
          · rw [decide_eq_false (by omega : ¬ 0 ≤ i)]; simp
          · rw [decide_eq_false (by omega : ¬ i < 256)]; simp
        rw [this]
        unfold looksE at hz ⊢
        split at hz
        · cases hz
        · next hd => rw [if_neg hd, if_neg (by simp)]
      have e1 : spoilE fl (b : Int) (p : Int) i = 1 := by unfold spoilE; rw [if_neg (by rw [hoks]; decide), hoks]
      have e2 : spoilF fl (b : Int) (p : Int) i x = fl := by unfold spoilF; rw [if_neg (by rw [e1]; decide)]
      rw [e1, e2]
      clear h hz hoks e1 e2 b0 b1 b2 b3 hb hp
      by_cases h1 : i < 0
      · have q1 : decide (i < 0) = true := decide_eq_true h1
        clear hi h1
        go_enter Try.func57, Try.ntmps57
        go_wp2_with fail
        refine HL.out.mono ?_
        rintro e w0 ⟨rfl, rfl⟩
        go_wp2_with fail
        go_ret
        exact ⟨rfl, HR.out, KeepS.refl _ _⟩
      · have q1 : decide (i < 0) = false := decide_eq_false h1
        have q2 : decide (256 ≤ i) = true := decide_eq_true (by omega)
        clear hi h1
        go_enter Try.func57, Try.ntmps57
        go_wp2_with fail
        refine HL.out.mono ?_
        rintro e w0 ⟨rfl, rfl⟩
        go_wp2_with fail
        go_ret
        exact ⟨rfl, HR.out, KeepS.refl _ _⟩
  · have hoks : looksE fl (okS fl b p i) = z := by
      unfold looksE at hz ⊢
      split at hz
      · next hd => rw [if_pos hd]; exact hz
      · next hd =>
        split at hz
        · exact absurd hz.symm h0
        · next ho =>
          rw [if_neg hd, if_neg (by unfold okS; simp only [Bool.and_eq_true]; exact fun e => ho e.1)]
          exact hz
    have e1 : spoilE fl b p i = z := by unfold spoilE; rw [if_neg (by rw [hoks]; exact h0), hoks]
    have e2 : spoilF fl b p i x = fl := by unfold spoilF; rw [if_neg (by rw [e1]; exact h0)]
    rw [e1, e2]
    have q1 : (z != 0) = true := bne_iff_ne.2 h0
    clear h hz hoks e1 e2 h0
    go_enter Try.func57, Try.ntmps57
    go_wp2_with fail
    refine HL.out.mono ?_
    rintro e w0 ⟨rfl, rfl⟩
    go_wp2_with fail
    go_ret
    exact ⟨rfl, HR.out, KeepS.refl _ _⟩
end Go.Proofs.Ytandhpnpodkemaa.M
end

section
/- The reference's New. -/
set_option linter.unusedVariables false
set_option linter.unusedSimpArgs false
set_option maxRecDepth 100000
attribute [local irreducible] Go.wpStill
namespace Go.Proofs.Ytandhpnpodkemaa.M
open Go.RowKit Go.Proofs.YtandhpnpodkemaaW.PrintWords Go.Proofs.YtandhpnpodkemaaW.PrintLast
theorem i64Info : (Try.prog.info? 2).map (fun i => (i.zero, i.size, i.bytes)) = some (some (.int .i64 0), 1, 8) := by kernel_rfl
theorem rpInfo : (Try.prog.info? 91).map (fun i => (i.zero, i.size, i.bytes)) = some (some (.slice none 0 0), 1, 24) := by kernel_rfl
theorem blk_own_ne {w : World} {base n k : Nat} {e t : TypeId} {v : Value} {xs : List Value} {cur : Array Value} (h : w.ownsRow base e 1 v n xs) (hk : w.heap[k]? = some (.cells cur t (0, 0))) (hne : e ≠ t) : some k ≠ v.ownBlock := fun h1 => by
  obtain ⟨cells, hc⟩ := own_typed h k h1.symm
  rw [hk] at hc
  injection hc with hc
  injection hc with _ hc
  exact hne hc.symm
theorem own_keep {w w' : World} {base n : Nat} {e : TypeId} {v : Value} {xs : List Value} {S : Nat → Prop} (h : w.ownsRow base e 1 v n xs) (hk : KeepS S w w') (hs : ∀ k, v.ownBlock = some k → ¬ S k) : w'.ownsRow base e 1 v n xs := by
  refine ⟨h.1, ?_⟩
  rcases h.2 with h1 | ⟨g, cap, cur, e1, hb, hh, r⟩
  · exact .inl h1
  · exact .inr ⟨g, cap, cur, e1, hb, (hk.block g (blk_lt hh) (hs g (by rw [e1]; simp [Value.ownBlock]))).trans hh, r⟩
theorem ob_append_step {W : World} {ops : Array Oper} {o : Oper} {a : Act} {Q : Exit → Act → World → Prop} {Kc : Act → World → Prop} (hw : Region.wanted o (yielded ops a.tmps) = true) (s x : Operand) (ho : o.op = .call { callee := .builtin .append, args := #[s, x], argTypes := #[64, 64] })
    {base n c : Nat} {A : Option Addr} {xs : List Value} {y : Value} (hs : a.eval s = .slice A n c) (hx : a.eval x = .slice (some ⟨W.heap.size, 0, none⟩) 1 1) (h : W.ownsRow base 91 1 (.slice A n c) n xs) (hy : ∃ g m, y = .slice (some ⟨g, 0, none⟩) m m) (hl : n ≤ 1024) (hB : base ≤ W.heap.size)
    (hK : ∀ A' c' w', n + 1 ≤ c' → w'.ownsRow base 91 1 (.slice A' (n + 1) c') (n + 1) (xs ++ [y]) → W.grownBy w' (Value.slice A n c).ownBlock → True → Kc (a.put o.dst (.slice A' (n + 1) c')) w') :
    if Region.wanted o (yielded ops a.tmps) = true then Oper.wp Try.prog o a (W.alloc (.cells #[y] 91)) Kc Q else Kc (a.put o.dst undef) (W.alloc (.cells #[y] 91)) := by
  obtain ⟨i0, hi, hzz⟩ := Option.map_eq_some_iff.1 rpInfo
  simp only [Prod.mk.injEq] at hzz
  obtain ⟨hz0, hz1, hz2⟩ := hzz
  have hb := (Below.refl W.heap.size W).alloc (Nat.le_refl _) (.cells #[y] 91)
  obtain ⟨v', w', hr, ho1, hg, _, _⟩ := run_append_own_at (P := Try.prog) (w := W.alloc (.cells #[y] 91)) base 64 o.type 91 i0 _ 1 24 Try.underlying64 hi hz0 hz1 hz2 rfl (by decide) (.slice A n c) n xs (pw_own_below h hb) ⟨W.heap.size, 0, none⟩ 1 1 [y] rfl
    (fun j u hu => by
      cases j with
      | zero => simp at hu; subst hu; exact (blk_cell (heap_alloc_new W _) 0).trans rfl
      | succ j => simp at hu)
    (fun u hu => by rw [List.mem_singleton.1 hu]; obtain ⟨g, m, rfl⟩ := hy; rfl)
    (by simp only [maxLen]; omega) (by omega) (Nat.le_trans hB hb.size)
  rw [if_pos hw]
  unfold Oper.wp execOp
  simp only [ho, resolve, invoke, builtin, Sem.run_bind, Sem.run_pure, Result.andThen_ok, List.map_toArray, List.map_cons, List.map_nil, hs, hx, hr]
  rcases ho1.2 with ⟨_, h0⟩ | ⟨g, cap, cur, rfl, hge, hh, hnc, r⟩
  · omega
  · exact hK _ cap w' hnc ho1 ⟨hg.os.trans hb.os, hg.tape.trans hb.tape, hg.output.trans hb.output, Nat.le_trans hb.size hg.size, fun k hk hne => (hg.block k (Nat.lt_of_lt_of_le hk hb.size) hne).trans (hb.block k hk)⟩ trivial
def NewI (w : World) (n : Nat) (Y : Array Value) (j : Nat) (W : World) : Prop := ∃ (A : Option Addr) (c : Nat) (xs : List Value), W.heap[w.heap.size + 1]? = some (.cells #[.slice A j c, .slice (some ⟨w.heap.size, 0, none⟩) n n, .int .i64 0, .int .i64 0, .bool false] 67 (0, 0)) ∧ W.heap[w.heap.size]? = some (.cells Y 2 (0, 0)) ∧ W.ownsRow w.heap.size 91 1 (.slice A j c) j xs ∧ (∀ (i : Nat) (v : Value), xs[i]? = some v → PgRow W v (fun _ => zPg) ∧ ∃ g cap, v = .slice (some ⟨g, 0, none⟩) 16 cap) ∧ Below w.heap.size w W
set_option maxHeartbeats 4000000 in
theorem rnew_is (n : Nat) (w : World) (h1 : 1 ≤ n) (h2 : n ≤ 1024) : Calls Try.prog 50 #[.int .i64 (n : Int)] w fun e w' => ∃ q wb ob, e = .returned (.tuple #[.pointer (some ⟨q, 0, none⟩), .int .i64 0]) ∧ IsR w' q ob wb (newF n) ∧ Below w.heap.size w w' ∧ w.heap.size ≤ q ∧ w.heap.size ≤ ob ∧ w.heap.size ≤ wb := by
  obtain ⟨Z, hZ1, hZ2⟩ := pg_made
  obtain ⟨i0, hi, hzz⟩ := Option.map_eq_some_iff.1 i64Info
  simp only [Prod.mk.injEq] at hzz
  obtain ⟨hz0, hz1, hz2⟩ := hzz
  have hmk : ∀ u : World, (Instr.makeSlice 65 (.int .i64 (n : Int)) (.int .i64 (n : Int))).run Try.prog u = .ok (.slice (some ⟨u.heap.size, 0, none⟩) n n) (u.alloc (.cells (madeCells (Value.cells (.int .i64 0)) (n * 1)) 2)) := fun u => by
    have h := run_make (P := Try.prog) u 65 2 i0 _ Try.underlying65 hi hz0 .i64 .i64 (n : Int) (n : Int) (by omega) (Int.le_refl _) (by rw [hz2]; omega) (by omega)
    rw [hz1, Int.toNat_natCast] at h
    exact h
  obtain ⟨Y, hY⟩ : ∃ Y, madeCells (Value.cells (.int .i64 0)) (n * 1) = Y := ⟨_, rfl⟩
  have HYC := Lib.hid (show ∀ b, b < n → Y[b]? = some (.int .i64 0) from fun b hb => by
    rw [← hY]
    simp only [madeCells, Array.getElem?_map, Value.cells]
    rw [Array.getElem?_range]
    simp [hb, Nat.mod_one])
  rw [hY] at hmk
  have HZ2 := Lib.hid hZ2
  have HN := Lib.hid (And.intro h1 h2)
  have q1 : decide ((n : Int) < 1) = false := decide_eq_false (by omega)
  have q2 : decide (1024 < (n : Int)) = false := decide_eq_false (by omega)
  have q3 : decide (1024 < n) = false := decide_eq_false (by omega)
  have q4 : decide (n < 1) = false := decide_eq_false (by omega)
  have hn9 : n ≤ 1024 := h2
  clear hY hi hz0 hz1 hz2 hZ2 h1 h2
  go_enter Try.func50, Try.ntmps50
  go_upto_block 0 with fail
  have hwb := heap_alloc_new w (.cells Y 2)
  have hb1 : Below w.heap.size w (w.alloc (.cells Y 2)) := (Below.refl _ _).alloc (Nat.le_refl _) _
  have hq := heap_alloc_new (w.alloc (.cells Y 2)) (.cells #[.slice none 0 0, .slice (some ⟨w.heap.size, 0, none⟩) n n, .int .i64 0, .int .i64 0, .bool false] 67)
  have hsz : (w.alloc (.cells Y 2)).heap.size = w.heap.size + 1 := by simp
  rw [hsz] at hq
  have hb2 := hb1.alloc hb1.size (.cells #[.slice none 0 0, .slice (some ⟨w.heap.size, 0, none⟩) n n, .int .i64 0, .int .i64 0, .bool false] 67)
  have hwb2 := ((Below.refl (w.alloc (.cells Y 2)).heap.size _).alloc (Nat.le_refl _) (.cells #[.slice none 0 0, .slice (some ⟨w.heap.size, 0, none⟩) n n, .int .i64 0, .int .i64 0, .bool false] 67)).block w.heap.size (by simp)
  have HB0 := Lib.hid hb2; have HW0 := Lib.hid (hwb2.trans hwb); have HQ0 := Lib.hid hq
  obtain ⟨w0, hw0⟩ : ∃ V, (w.alloc (.cells Y 2)).alloc (.cells #[.slice none 0 0, .slice (some ⟨w.heap.size, 0, none⟩) n n, .int .i64 0, .int .i64 0, .bool false] 67) = V := ⟨_, rfl⟩
  rw [hw0] at HB0 HW0 HQ0 ⊢
  clear hwb hb1 hq hsz hb2 hwb2 hw0 hmk
  go_wp2_with fail
  go_loopw [5] (fun i W => ∃ j : Nat, i = .int .i64 (j : Int) ∧ j ≤ n ∧ NewI w n Y j W) (fun i _ => n - (intOf i).toNat)
  case atStart => exact ⟨0, rfl, Nat.zero_le _, none, 0, [], HQ0.out, HW0.out, own_nil _ _ _ _, fun i v hv => by simp at hv, HB0.out⟩
  case round =>
    obtain ⟨j, rfl, hj, A, c, xs, hq, hwb, ho, hx, hb⟩ := hrel
    have HQr := Lib.hid hq; have HWr := Lib.hid hwb; have HOr := Lib.hid ho; have HXr := Lib.hid hx; have HBr := Lib.hid hb
    clear HQ0 HW0 HB0 hq hwb ho hx hb
    by_cases hlt : j < n
    · have r1 : decide (j < n) = true := decide_eq_true hlt
      have r2 : decide ((j : Int) < (n : Int)) = true := decide_eq_true (by omega)
      have HLT := Lib.hid hlt
      clear hlt
      go_upto_region 7 with fail
      clear r1 r2
      refine start_ (n := 11) (S := fun w' => w'.cell? ⟨w.heap.size + 1, 0, none⟩ = some (.slice A j c)) (ds := [10]) #[false, false, false, false, false, false, false, false, false, false, false] (by kernel_rfl) rfl rfl ((blk_cell (show wr.drew.heap[w.heap.size + 1]? = _ from HQr.out) 0).trans rfl) (fun hHeld => ?_)
      have hbd := (Below.refl wr.heap.size wr).drew
      have HQd := Lib.hid (show wr.drew.heap[w.heap.size + 1]? = _ from HQr.out); have HWd := Lib.hid (show wr.drew.heap[w.heap.size]? = _ from HWr.out); have HOd := Lib.hid (pw_own_below HOr.out hbd); have HXd := Lib.hid (show ∀ (i : Nat) (v : Value), xs[i]? = some v → PgRow wr.drew v (fun _ => zPg) ∧ ∃ g cap, v = .slice (some ⟨g, 0, none⟩) 16 cap from fun i v hv => ⟨(HXr.out i v hv).1.below hbd, (HXr.out i v hv).2⟩); have HBd := Lib.hid HBr.out.drew
      obtain ⟨wa, hwa⟩ : ∃ wa, wr.drew = wa := ⟨_, rfl⟩
      rw [hwa] at HQd HWd HOd HXd HBd hHeld ⊢
      clear hwa hbd HQr HWr HOr HXr HBr
      refine pure_ (i := 0) (N := some 21) (v := ?_) (a' := ?_) #[true, false, false, false, false, false, false, false, false, false, false] rfl rfl (by kernel_rfl) (fun _ _ _ h => h) (Or.inl ⟨by rfl, ?_⟩) ?_ ?_
      rotate_left
      · intro w'
        go_simp
        try with_reducible rfl
      rotate_left
      · simp only [Act.put, List.setIfInBounds_toArray, List.set_cons_zero, List.set_cons_succ, i64_w, i32_w]
        rfl
      refine pure_ (i := 1) (N := some 22) (v := ?_) (a' := ?_) #[true, true, false, false, false, false, false, false, false, false, false] rfl rfl (by kernel_rfl) (fun _ _ _ h => h) (Or.inl ⟨by rfl, ?_⟩) ?_ ?_
      rotate_left
      · intro w'
        go_simp
        try with_reducible rfl
      rotate_left
      · simp only [Act.put, List.setIfInBounds_toArray, List.set_cons_zero, List.set_cons_succ, i64_w, i32_w]
        rfl
      refine pure_ (i := 2) (N := some 23) (v := ?_) (a' := ?_) #[true, true, true, false, false, false, false, false, false, false, false] rfl rfl (by kernel_rfl) (fun _ _ _ h => h) (Or.inl ⟨by rfl, ?_⟩) ?_ ?_
      rotate_left
      · intro w'
        go_simp
        try with_reducible rfl
      rotate_left
      · simp only [Act.put, List.setIfInBounds_toArray, List.set_cons_zero, List.set_cons_succ, i64_w, i32_w]
        rfl
      refine pure_ (i := 3) (N := some 24) (v := ?_) (a' := ?_) #[true, true, true, true, false, false, false, false, false, false, false] rfl rfl (by kernel_rfl) (fun _ _ _ h => h) (Or.inl ⟨by rfl, ?_⟩) ?_ ?_
      rotate_left
      · intro w'
        go_simp
        try with_reducible rfl
      rotate_left
      · simp only [Act.put, List.setIfInBounds_toArray, List.set_cons_zero, List.set_cons_succ, i64_w, i32_w]
        rfl
      refine take_ (i := 4) (N := some 25) (v := ?_) (a' := ?_) #[true, true, true, true, true, false, false, false, false, false, false] rfl rfl (by kernel_rfl) (fun _ _ _ h => h) (Or.inl ⟨by rfl, ?_⟩) hHeld ?_ ?_
      rotate_left
      · intro w' hS
        go_simp
        try with_reducible rfl
      rotate_left
      · simp only [Act.put, List.setIfInBounds_toArray, List.set_cons_zero, List.set_cons_succ, i64_w, i32_w]
        rfl
      refine one_ (i := 5) (N := some 26) #[true, true, true, true, true, true, false, false, false, false, false] rfl rfl (by kernel_rfl) (by decide) (fun K hK => ?_)
      refine value_ (w1 := ?_) (v := ?_) (by rfl) rfl ?_ ?_
      rotate_left 2
      · go_simp
        constructor <;> rfl
      have HB2 := Lib.hid ((Below.refl wa.heap.size wa).alloc (Nat.le_refl _) (.cells Z 90))
      have HP2 := Lib.hid (HZ2.out wa)
      have HQ2 := Lib.hid ((HB2.out.block _ (blk_lt HQd.out)).trans HQd.out)
      refine hK.out _ _ ((blk_cell HQ2.out 0).trans rfl) (fun hHeld => ?_)
      clear hK K
      refine norm_ (a' := ?_) ?_ ?_
      rotate_left
      · show Act.put _ (some 26) _ = _
        simp only [Act.put, List.setIfInBounds_toArray, List.set_cons_zero, List.set_cons_succ, i64_w, i32_w]
        rfl
      have HW2 := Lib.hid ((HB2.out.block _ (blk_lt HWd.out)).trans HWd.out); have HO2 := Lib.hid (pw_own_below HOd.out HB2.out); have HX2 := Lib.hid (show ∀ (i : Nat) (v : Value), xs[i]? = some v → PgRow _ v (fun _ => zPg) ∧ ∃ g cap, v = .slice (some ⟨g, 0, none⟩) 16 cap from fun i v hv => ⟨(HXd.out i v hv).1.below HB2.out, (HXd.out i v hv).2⟩); have HBB2 := Lib.hid (HBd.out.trans (HB2.out.mono HBd.out.size))
      obtain ⟨ra, hra⟩ : ∃ ra, wa.heap.size = ra := ⟨_, rfl⟩
      obtain ⟨w2, hw2⟩ : ∃ V, wa.alloc (.cells Z 90) = V := ⟨_, rfl⟩
      rw [hw2] at HP2 HQ2 HW2 HO2 HX2 HBB2 hHeld ⊢
      rw [hra] at HP2 ⊢
      clear hw2 hra HQd HWd HOd HXd HBd HB2
      refine one_ (i := 6) (N := some 27) #[true, true, true, true, true, true, true, false, false, false, false] rfl rfl (by kernel_rfl) (by decide) (fun K hK => ?_)
      refine value_ (w1 := ?_) (v := ?_) (by rfl) rfl ?_ ?_
      rotate_left 2
      · go_simp
        constructor <;> rfl
      have HB3 := Lib.hid ((Below.refl w2.heap.size w2).alloc (Nat.le_refl _) (.cells #[.slice (some ⟨ra, 0, none⟩) 16 16] 91))
      refine hK.out _ _ ((blk_cell ((HB3.out.block _ (blk_lt HQ2.out)).trans HQ2.out) 0).trans rfl) (fun hHeld => ?_)
      clear hK K
      refine norm_ (a' := ?_) ?_ ?_
      rotate_left
      · show Act.put _ (some 27) _ = _
        simp only [Act.put, List.setIfInBounds_toArray, List.set_cons_zero, List.set_cons_succ, i64_w, i32_w]
        rfl
      have HQ3 := Lib.hid ((HB3.out.block _ (blk_lt HQ2.out)).trans HQ2.out)
      refine one_ (i := 7) (N := some 28) #[true, true, true, true, true, true, true, true, false, false, false] rfl rfl (by kernel_rfl) (by decide) (fun K hK => ?_)
      refine ob_append_step (by rfl) (.tmp 25) (.tmp 27) rfl rfl rfl HO2.out ⟨_, _, rfl⟩ (by have := HN.out; have := HLT.out; omega) (by have := HBB2.out.size; omega) ?_
      intro A' c' w4 hcap ho hb4 hg4
      have HO4 := Lib.hid ho; have HG4 := Lib.hid hg4
      have HK4 := Lib.hid hb4
      have HQ4 := Lib.hid ((hb4.block (w.heap.size + 1) (blk_lt HQ2.out) (fun e => (blk_own_ne HO2.out HQ2.out (by decide)) e)).trans HQ2.out)
      have HW4 := Lib.hid ((hb4.block w.heap.size (blk_lt HW2.out) (fun e => (blk_own_ne HO2.out HW2.out (by decide)) e)).trans HW2.out)
      have HX4 := Lib.hid (show ∀ (i : Nat) (v : Value), (xs ++ [.slice (some ⟨ra, 0, none⟩) 16 16])[i]? = some v → PgRow w4 v (fun _ => zPg) ∧ ∃ g cap, v = .slice (some ⟨g, 0, none⟩) 16 cap from fun i v hv => by
        have hk : KeepS (fun k => (Value.slice A j c).ownBlock = some k) w2 w4 := ⟨hb4.os, hb4.tape, hb4.output, hb4.size, fun k hk hn => hb4.block k hk (fun e => hn e.symm)⟩
        have hs : ∀ k, (Value.slice A j c).ownBlock = some k → ¬ Tp w2 k := fun k e => by
          obtain ⟨cells, hc⟩ := own_typed HO2.out k e
          exact not_tp hc (by decide) (by decide)
        rcases Nat.lt_or_ge i xs.length with h | h
        · rw [List.getElem?_append_left h] at hv
          exact ⟨(HX2.out i v hv).1.keep hk hs, (HX2.out i v hv).2⟩
        · rw [List.getElem?_append_right h] at hv
          have : i - xs.length = 0 := by
            rcases Nat.eq_zero_or_pos (i - xs.length) with e | e
            · exact e
            · rw [List.getElem?_eq_none (by simp; omega)] at hv; cases hv
          rw [this] at hv
          simp at hv
          subst hv
          exact ⟨HP2.out.keep hk hs, ra, 16, rfl⟩)
      have HB4 := Lib.hid (HBB2.out.trans (show Below w.heap.size w2 w4 from ⟨hb4.os, hb4.tape, hb4.output, hb4.size, fun k hk => hb4.block k (by have := HBB2.out.size; omega) (fun e => by have := own_base HO2.out k e.symm; omega)⟩))
      clear ho hb4 hg4
      refine hK.out _ _ ((blk_cell HQ4.out 0).trans rfl) (fun hHeld => ?_)
      clear hK K
      refine norm_ (a' := ?_) ?_ ?_
      rotate_left
      · show Act.put _ (some 28) _ = _
        simp only [Act.put, List.setIfInBounds_toArray, List.set_cons_zero, List.set_cons_succ, i64_w, i32_w]
        rfl
      refine pure_ (i := 8) (N := some 29) (v := ?_) (a' := ?_) #[true, true, true, true, true, true, true, true, true, false, false] rfl rfl (by kernel_rfl) (fun _ _ _ h => h) (Or.inl ⟨by rfl, ?_⟩) ?_ ?_
      rotate_left
      · intro w'
        go_simp
        try with_reducible rfl
      rotate_left
      · simp only [Act.put, List.setIfInBounds_toArray, List.set_cons_zero, List.set_cons_succ, i64_w, i32_w]
        rfl
      refine pure_ (i := 9) (N := some 30) (v := ?_) (a' := ?_) #[true, true, true, true, true, true, true, true, true, true, false] rfl rfl (by kernel_rfl) (fun _ _ _ h => h) (Or.inl ⟨by rfl, ?_⟩) ?_ ?_
      rotate_left
      · intro w'
        go_simp
        try with_reducible rfl
      rotate_left
      · simp only [Act.put, List.setIfInBounds_toArray, List.set_cons_zero, List.set_cons_succ, i64_w, i32_w]
        rfl
      have q5 : w4.cell? ⟨w.heap.size + 1, 0, none⟩ = some (.slice A j c) := (blk_cell HQ4.out 0).trans rfl
      have z5 : w4.frozen? ⟨w.heap.size + 1, 0, none⟩ = false := blk_frozen HQ4.out 0
      refine last_ (i := 10) (N := none) #[true, true, true, true, true, true, true, true, true, true, true] rfl rfl (by kernel_rfl) (by decide) (fun K hK => ?_)
      refine skip_ (w1 := ?_) (by rfl) rfl ?_ ?_
      rotate_left
      · go_simp
        rfl
      refine hK.out _ _ ?_
      clear hK K
      refine done_ (by kernel_rfl) ?_
      go_wp2_with fail
      have hk5 : KeepS (fun k => k = w.heap.size + 1) w4 (w4.setCell ⟨w.heap.size + 1, 0, none⟩ (.slice A' (j + 1) c')) := (KeepS.refl (fun k => k = w.heap.size + 1) w4).set (p := ⟨w.heap.size + 1, 0, none⟩) (.inl rfl) _
      have HK5 := Lib.hid hk5
      have HQ5 := Lib.hid (blk_put HQ4.out 0 (.slice A' (j + 1) c') rfl)
      clear hk5 q5 z5
      go_roundw
      case rel =>
        refine ⟨j + 1, by go_num, HLT.out, A', c', xs ++ [.slice (some ⟨ra, 0, none⟩) 16 16], HQ5.out, (HK5.out.block _ (blk_lt HW4.out) (by show ¬ w.heap.size = w.heap.size + 1; omega)).trans HW4.out, own_keep HO4.out HK5.out (fun k e h => (blk_own_ne HO4.out HQ4.out (by decide)) (by rw [e, h])), fun i v hv => ⟨(HX4.out i v hv).1.keep HK5.out (fun k e => by subst e; exact not_tp HQ4.out (by decide) (by decide)), (HX4.out i v hv).2⟩, HB4.out.trans (HK5.out.below HB4.out.size (fun k e => by omega))⟩
      case measure => have := HLT.out; simp [intOf]; omega
    · obtain rfl : j = n := by omega
      have r1 : decide (j < j) = false := decide_eq_false hlt
      clear hlt
      go_wp2_with fail
      go_ret2
      refine ⟨w.heap.size + 1, w.heap.size, ?_⟩
      rcases HOr.out.2 with ⟨_, h0⟩ | ⟨ob, cap, cur, e, hge, hh, hnc, hcm, hcs, ht⟩
      · have := HN.out.1; omega
      · injection e with e1 e2 e3
        subst e1; subst e3
        refine ⟨ob, rfl, ⟨⟨0, c, HQr.out, show keepV 0 = 0 by decide, hnc⟩, ⟨cur, hh, fun b hb => ?_⟩, ⟨Y, HWr.out, fun b hb => HYC.out b hb⟩, HN.out.1, HN.out.2⟩, HBr.out, Nat.le_succ _, hge, Nat.le_refl _⟩
        have hl : xs.length = j := by have := HOr.out.1; omega
        obtain ⟨v, hv⟩ : ∃ v, xs[b]? = some v := ⟨_, List.getElem?_eq_getElem (by rw [hl]; exact hb)⟩
        refine ⟨v, ?_, ((HXr.out b v hv).1).congr (fun p hp => by simp [pgOf, newF, zPg])⟩
        rw [← ht, List.getElem?_take] at hv
        split at hv
        · rw [Array.getElem?_toList] at hv; exact hv
        · cases hv
theorem rnew_bad (n : Int) (w : World) (h : n < 1 ∨ 1024 < n) : Calls Try.prog 50 #[.int .i64 n] w fun e w' => e = .returned (.tuple #[.pointer none, .int .i64 1]) ∧ w' = w := by
  by_cases h1 : n < 1
  · have g1 : decide (n < 1) = true := decide_eq_true h1
    clear h h1
    go_enter Try.func50, Try.ntmps50
    go_wp2_with fail
    go_ret2
    exact ⟨rfl, rfl⟩
  · have g1 : decide (n < 1) = false := decide_eq_false h1
    have g2 : decide (1024 < n) = true := decide_eq_true (by omega)
    clear h h1
    go_enter Try.func50, Try.ntmps50
    go_wp2_with fail
    go_ret2
    exact ⟨rfl, rfl⟩
end Go.Proofs.Ytandhpnpodkemaa.M
end

section
/- The reference's Used. -/
set_option linter.unusedVariables false
set_option linter.unusedSimpArgs false
set_option maxRecDepth 100000
namespace Go.Proofs.Ytandhpnpodkemaa.M
open Go.RowKit Go.Proofs.YtandhpnpodkemaaW.PrintWords Go.Proofs.YtandhpnpodkemaaW.PrintLast
def cntK (c : Nat → Int) (b : Nat) : Nat → Nat
  | 0 => 0
  | k + 1 => cntK c b k + if c (b * 4113 + k * 257) ≠ 0 then 1 else 0
def usedR (fl : Fl) (b : Int) : Nat := if 0 ≤ b ∧ b < (fl.n : Int) then cntK fl.c b.toNat 16 else 0
def cntU (c : Nat → Int) (b : Int) (q : Nat) : Nat := if 0 ≤ b ∧ b.toNat < q / 16 then cntK c b.toNat 16 else if 0 ≤ b ∧ b.toNat = q / 16 then cntK c b.toNat (q % 16) else 0
theorem cntU_lt {c : Nat → Int} {b : Int} {q : Nat} (hb : 0 ≤ b) (h : b.toNat < q / 16) : cntU c b q = cntK c b.toNat 16 := by unfold cntU; rw [if_pos ⟨hb, h⟩]
theorem cntU_eq {c : Nat → Int} {b : Int} {q : Nat} (hb : 0 ≤ b) (h : b.toNat = q / 16) : cntU c b q = cntK c b.toNat (q % 16) := by unfold cntU; rw [if_neg (by rintro ⟨_, h3⟩; omega), if_pos ⟨hb, h⟩]
theorem cntU_gt {c : Nat → Int} {b : Int} {q : Nat} (h : 0 ≤ b → q / 16 < b.toNat) : cntU c b q = 0 := by unfold cntU; rw [if_neg (by rintro ⟨h1, h3⟩; have := h h1; omega), if_neg (by rintro ⟨h1, h3⟩; have := h h1; omega)]
theorem cntK_succ (c : Nat → Int) (b k : Nat) : cntK c b (k + 1) = cntK c b k + if c (b * 4113 + k * 257) ≠ 0 then 1 else 0 := rfl
theorem cntB_usedL (c : Nat → Int) (b : Int) : ∀ q, cntB b (usedL c q) = cntU c b q
  | 0 => by
    by_cases hb : 0 ≤ b
    · by_cases h : b.toNat = 0
      · rw [cntU_eq hb (by omega)]; rfl
      · rw [cntU_gt (fun _ => by omega)]; rfl
    · rw [cntU_gt (fun h => absurd h hb)]; rfl
  | q + 1 => by
    have ih := cntB_usedL c b q
    have e : cntB b (usedL c (q + 1)) = cntU c b q + if (0 ≤ b ∧ b.toNat = q / 16) ∧ c (q / 16 * 4113 + q % 16 * 257) ≠ 0 then 1 else 0 := by
      rw [← ih]
      simp only [usedL]
      by_cases h : c (q / 16 * 4113 + q % 16 * 257) ≠ 0
      · rw [if_pos h, cntB_snoc]
        congr 1
        by_cases hb : ((q / 16 : Nat) : Int) = b
        · rw [if_pos hb, if_pos ⟨⟨by omega, by omega⟩, h⟩]
        · rw [if_neg hb, if_neg (by rintro ⟨⟨h1, h2⟩, _⟩; omega)]
      · rw [if_neg h, List.append_nil, if_neg (fun x => h x.2)]
        rfl
    rw [e]
    by_cases hb : 0 ≤ b
    · rcases Nat.lt_trichotomy b.toNat (q / 16) with h | h | h
      · rw [cntU_lt hb h, cntU_lt hb (show b.toNat < (q + 1) / 16 by omega), if_neg (by rintro ⟨⟨_, h3⟩, _⟩; omega)]
        rfl
      · rw [cntU_eq hb h]
        have e2 : (if (0 ≤ b ∧ b.toNat = q / 16) ∧ c (q / 16 * 4113 + q % 16 * 257) ≠ 0 then 1 else 0) = (if c (b.toNat * 4113 + q % 16 * 257) ≠ 0 then 1 else 0 : Nat) := by
          rw [← h]
          by_cases hc : c (b.toNat * 4113 + q % 16 * 257) ≠ 0
          · rw [if_pos hc, if_pos ⟨⟨hb, rfl⟩, hc⟩]
          · rw [if_neg hc, if_neg (fun x => hc x.2)]
        rw [e2, ← cntK_succ]
        by_cases hm : q % 16 = 15
        · rw [cntU_lt hb (show b.toNat < (q + 1) / 16 by omega), hm]
        · rw [cntU_eq hb (show b.toNat = (q + 1) / 16 by omega), show (q + 1) % 16 = q % 16 + 1 by omega]
      · rw [cntU_gt (fun _ => h), if_neg (by rintro ⟨⟨_, h3⟩, _⟩; omega)]
        by_cases h2 : b.toNat = (q + 1) / 16
        · rw [cntU_eq hb h2, show (q + 1) % 16 = 0 by omega]
          rfl
        · rw [cntU_gt (fun _ => by omega)]
    · rw [cntU_gt (fun h => absurd h hb), cntU_gt (fun h => absurd h hb), if_neg (fun x => hb x.1.1)]
theorem used_eq (fl : Fl) (b : Int) : cntB b (usedL fl.c (fl.n * 16)) = usedR fl b := by
  rw [cntB_usedL]
  have e1 : fl.n * 16 / 16 = fl.n := by omega
  have e2 : fl.n * 16 % 16 = 0 := by omega
  unfold usedR
  by_cases h : 0 ≤ b ∧ b < (fl.n : Int)
  · rw [if_pos h, cntU_lt h.1 (by omega)]
  · rw [if_neg h]
    by_cases h2 : 0 ≤ b ∧ b.toNat = fl.n
    · rw [cntU_eq h2.1 (by omega), e2]
      rfl
    · rw [cntU_gt (fun h3 => by omega)]
theorem cntK_le (c : Nat → Int) (b : Nat) : ∀ k, cntK c b k ≤ k
  | 0 => Nat.le_refl _
  | k + 1 => by have := cntK_le c b k; unfold cntK; split <;> omega
set_option maxHeartbeats 1000000 in
theorem rused_is {w : World} {q ob wb : Nat} {fl : Fl} (h : IsR w q ob wb fl) (b : Int) :
    Calls Try.prog 29 #[.pointer (some ⟨q, 0, none⟩), .int .i64 b] w fun e w' => e = .returned (.int .i64 (usedR fl b)) ∧ w' = w := by
  have HR := Lib.hid h
  have hn : fl.n ≤ 1024 := h.n2
  obtain ⟨kr, co, ⟨c0, c1, c2, c3, c4⟩, hkr, hco⟩ := h.cells
  clear h c1 c2 c3 c4 hkr
  by_cases hb : 0 ≤ b ∧ b < (fl.n : Int)
  · obtain ⟨k0, rfl⟩ : ∃ k : Nat, b = (k : Int) := ⟨b.toNat, by omega⟩
    have HU := Lib.hid (show usedR fl (k0 : Int) = cntK fl.c k0 16 by unfold usedR; rw [if_pos hb, Int.toNat_natCast])
    have HK := Lib.hid (show k0 < fl.n by omega)
    have q1 : decide (0 ≤ (k0 : Int)) = true := decide_eq_true hb.1
    have q2 : decide ((k0 : Int) < (fl.n : Int)) = true := decide_eq_true hb.2
    have q3 : decide (k0 < fl.n) = true := decide_eq_true (by omega)
    have i0 := hb.1; have i1 := hb.2
    clear hb
    rw [HU.out]
    go_enter Try.func29, Try.ntmps29
    go_wp2_with fail
    go_loopw [5, 6] (fun n i W => ∃ k : Nat, i = .int .i64 (k : Int) ∧ k ≤ 16 ∧ n = .int .i64 (cntK fl.c k0 k : Int) ∧ W = w) (fun _ i _ => 17 - (intOf i).toNat)
    case atStart => exact ⟨0, rfl, by omega, rfl, rfl⟩
    case round =>
      obtain ⟨k, rfl, hk, rfl, rfl⟩ := hrel
      by_cases hlt : k < 16
      · have r1 : decide ((k : Int) < 16) = true := decide_eq_true (by omega)
        have r2 : decide (k < 16) = true := decide_eq_true hlt
        have HLT := Lib.hid hlt
        obtain ⟨g, cap, bv, s0, hcap, hpr, p0, _, _, _⟩ := HR.out.page HK.out hlt
        obtain ⟨x, hx⟩ : ∃ x, (pgOf fl k0 k).has = x := ⟨_, rfl⟩
        have HX := Lib.hid (show decide (fl.c (k0 * 4113 + k * 257) ≠ 0) = x from hx)
        rw [hx] at p0
        have i2 : (k : Int) < 16 := by omega
        have i3 : (0 : Int) ≤ (k : Int) := by omega
        obtain ⟨m, hm⟩ : ∃ m, cntK fl.c k0 k = m := ⟨_, rfl⟩
        have HM := Lib.hid hm
        have hm16 : m ≤ 16 := by have := cntK_le fl.c k0 k; omega
        rw [hm]
        clear hlt hx hpr hm
        cases x with
        | true =>
          have HE := Lib.hid (show cntK fl.c k0 (k + 1) = m + 1 by unfold cntK; rw [HM.out, if_pos (of_decide_eq_true HX.out)])
          go_wp2_with fail
          go_roundw
          case rel => exact ⟨k + 1, by go_num, HLT.out, by rw [HE.out]; go_num, by trivial⟩
          case measure => have := HLT.out; simp [intOf]; omega
        | false =>
          have HE := Lib.hid (show cntK fl.c k0 (k + 1) = m by unfold cntK; rw [HM.out, if_neg (of_decide_eq_false HX.out)]; rfl)
          go_wp2_with fail
          go_roundw
          case rel => exact ⟨k + 1, by go_num, HLT.out, by rw [HE.out], by trivial⟩
          case measure => have := HLT.out; simp [intOf]; omega
      · obtain rfl : k = 16 := by omega
        go_wp2_with fail
        go_ret
        exact ⟨rfl, rfl⟩
  · have HU := Lib.hid (show usedR fl b = 0 by unfold usedR; rw [if_neg hb])
    rw [HU.out]
    by_cases h0 : 0 ≤ b
    · have q1 : decide (0 ≤ b) = true := decide_eq_true h0
      have q2 : decide (b < (fl.n : Int)) = false := decide_eq_false (by omega)
      clear hb h0
      go_enter Try.func29, Try.ntmps29
      go_wp2_with fail
      go_loopw [5, 6] (fun n i W => i = .int .i64 0 ∧ n = .int .i64 0 ∧ W = w) (fun _ _ _ => 0)
      case atStart => exact ⟨rfl, rfl, rfl⟩
      case round =>
        obtain ⟨rfl, rfl, rfl⟩ := hrel
        go_wp2_with fail
        go_ret
        exact ⟨rfl, rfl⟩
    · have q1 : decide (0 ≤ b) = false := decide_eq_false h0
      clear hb h0
      go_enter Try.func29, Try.ntmps29
      go_wp2_with fail
      go_loopw [5, 6] (fun n i W => i = .int .i64 0 ∧ n = .int .i64 0 ∧ W = w) (fun _ _ _ => 0)
      case atStart => exact ⟨rfl, rfl, rfl⟩
      case round =>
        obtain ⟨rfl, rfl, rfl⟩ := hrel
        go_wp2_with fail
        go_ret
        exact ⟨rfl, rfl⟩
end Go.Proofs.Ytandhpnpodkemaa.M
end

section
/- The reference's All. -/
set_option linter.unusedVariables false
set_option linter.unusedSimpArgs false
set_option maxRecDepth 100000
namespace Go.Proofs.Ytandhpnpodkemaa.M
open Go.RowKit Go.Proofs.YtandhpnpodkemaaW.PrintWords Go.Proofs.YtandhpnpodkemaaW.PrintLast
def AlR (w : World) (c : Nat → Int) (k : Nat) (v : Value) (W : World) : Prop := ∃ (A : Option Addr) (cc m : Nat), v = .slice A m cc ∧ m = (usedL c k).length ∧ Kd.R pairK 34 W w.heap.size (fun _ => True) (.slice A m cc) (usedL c k) ∧ Below w.heap.size w W
set_option maxHeartbeats 2000000 in
theorem rall_is {w : World} {q ob wb : Nat} {fl : Fl} (h : IsR w q ob wb fl) :
    Calls Try.prog 30 #[.pointer (some ⟨q, 0, none⟩)] w fun e w' => ∃ (A : Option Addr) (cc : Nat), e = .returned (.slice A (usedL fl.c (fl.n * 16)).length cc) ∧ Kd.F pairK w' (fun i => i < w'.heap.size) A (usedL fl.c (fl.n * 16)).length (usedL fl.c (fl.n * 16)) ∧ Below w.heap.size w w' := by
  have HR := Lib.hid h
  have hn : fl.n ≤ 1024 := h.n2
  obtain ⟨nn, hnn⟩ : ∃ nn, fl.n = nn := ⟨_, rfl⟩
  have HNN := Lib.hid hnn
  rw [hnn] at hn ⊢
  clear h hnn
  go_enter Try.func30, Try.ntmps30
  go_wp2_with fail
  go_loopw [3, 4] (fun v i W => ∃ b : Nat, i = .int .i64 (b : Int) ∧ b ≤ nn ∧ AlR w fl.c (b * 16) v W) (fun _ i _ => nn - (intOf i).toNat)
  case atStart => exact ⟨0, rfl, Nat.zero_le _, none, 0, 0, rfl, by rw [Nat.zero_mul]; rfl, by rw [Nat.zero_mul]; exact Kd.R_nil _ _ _ _ _, Below.refl _ _⟩
  case round =>
    obtain ⟨b, rfl, hb, A, cc, m, rfl, hm, hR, hB⟩ := hrel
    have HRr := Lib.hid hR; have HBr := Lib.hid hB; have HM := Lib.hid hm
    obtain ⟨kr, co, ⟨c0, _, _, _, _⟩, _, hco⟩ := (HR.out.below hB).cells
    rw [HNN.out] at c0 hco
    clear hR hB hm
    by_cases hlt : b < nn
    · have q1 : decide ((b : Int) < (nn : Int)) = true := decide_eq_true (by omega)
      have q2 : decide (b < nn) = true := decide_eq_true hlt
      have HLT := Lib.hid hlt
      have i1 : (b : Int) < (nn : Int) := by omega
      have i0 : (0 : Int) ≤ (b : Int) := by omega
      clear hlt
      go_wp2_with fail
      go_loopw [3, 5] (fun v i W => ∃ p : Nat, i = .int .i64 (p : Int) ∧ p ≤ 16 ∧ AlR w fl.c (b * 16 + p) v W) (fun _ i _ => 17 - (intOf i).toNat)
      case atStart => exact ⟨0, rfl, by omega, A, cc, m, rfl, HM.out, HRr.out, HBr.out⟩
      case round =>
        obtain ⟨p, rfl, hp, A2, cc2, m2, rfl, hm2, hR2, hB2⟩ := hrel
        have HR2 := Lib.hid hR2; have HB2 := Lib.hid hB2; have HM2 := Lib.hid hm2
        have HI2 := Lib.hid (HR.out.below hB2)
        clear hR2 hB2 hm2 HRr HBr HM c0 hco
        obtain ⟨kr2, co2, ⟨c0, _, _, _, _⟩, _, hco⟩ := HI2.out.cells
        rw [HNN.out] at c0 hco
        by_cases hpl : p < 16
        · have r1 : decide ((p : Int) < 16) = true := decide_eq_true (by omega)
          have r2 : decide (p < 16) = true := decide_eq_true hpl
          have HPL := Lib.hid hpl
          obtain ⟨g, cap, bv, s0, hcap, hpr, p0, _, _, _⟩ := HI2.out.page (b := b) (by rw [HNN.out]; exact HLT.out) hpl
          obtain ⟨x, hx⟩ : ∃ x, (pgOf fl b p).has = x := ⟨_, rfl⟩
          have HX := Lib.hid (show decide (fl.c (b * 4113 + p * 257) ≠ 0) = x from hx)
          rw [hx] at p0
          have i2 : (p : Int) < 16 := by omega
          have i3 : (0 : Int) ≤ (p : Int) := by omega
          clear hpl hx hpr
          cases x with
          | false =>
            have HU := Lib.hid (usedL_no fl.c (b := b) HPL.out (Decidable.not_not.1 (of_decide_eq_false HX.out)))
            go_wp2_with fail
            go_roundw
            case rel => exact ⟨p + 1, by go_num, HPL.out, A2, cc2, m2, rfl, by rw [HU.out]; exact HM2.out, by rw [HU.out]; exact HR2.out, HB2.out⟩
            case measure => have := HPL.out; simp [intOf]; omega
          | true =>
            have HU := Lib.hid (usedL_yes fl.c (b := b) HPL.out (of_decide_eq_true HX.out))
            have hln : m2 ≤ 16400 := by have h1 := usedL_len fl.c (b * 16 + p); have h2 := HM2.out; have h3 := HLT.out; have h4 := HPL.out; omega
            obtain ⟨U, hU⟩ : ∃ U, usedL fl.c (b * 16 + p) = U := ⟨_, rfl⟩
            rw [hU] at HU HR2 HM2
            clear hU
            go_wp2_with ((with_reducible refine gate_builtin (b := .append) (xs := #[.tmp 30, .tmp 34]) rfl ?_); at_builtin; refine Kd.R_append pairK (w0 := w) w.heap.size rfl (.tmp 30) (.tmp 34) 68 34 _ 16 rfl Try.underlying68 info2 rfl (by decide) (by omega) _ U ((b : Int), (p : Int)) [.int .i64 b, .int .i64 p] (fun _ => True) (fun _ => False) rfl rfl ⟨_, _, rfl, rfl, rfl⟩ (fun _ hk => hk.elim) (fun _ _ => trivial) HR2.out HB2.out HB2.out.size (by have := HM2.out; omega) ?_; intro v1 w5 ho hb5 hg5 hat; obtain ⟨A5, c5, rfl⟩ := Kd.R_slice ho; have HO5 := Lib.hid ho; have HB5 := Lib.hid hb5; clear ho hb5 hg5 hat)
            go_roundw
            case rel =>
              have h9 := HO5.out
              exact ⟨p + 1, by go_num, HPL.out, A5, c5, _, rfl, by rw [HU.out]; simp, by rw [HU.out]; simpa using h9, HB5.out⟩
            case measure => have := HPL.out; simp [intOf]; omega
        · have r1 : decide ((p : Int) < 16) = false := decide_eq_false (by omega)
          have r2 : decide (p < 16) = false := decide_eq_false hpl
          have HP := Lib.hid (show (b + 1) * 16 = b * 16 + p by omega)
          clear hpl
          go_wp2_with fail
          go_roundw
          case rel => exact ⟨b + 1, by go_num, HLT.out, A2, cc2, m2, rfl, by rw [HP.out]; exact HM2.out, by rw [HP.out]; exact HR2.out, HB2.out⟩
          case measure => have := HLT.out; simp [intOf]; omega
    · obtain rfl : b = nn := by omega
      have q1 : decide ((b : Int) < (b : Int)) = false := decide_eq_false (by omega)
      clear hlt
      go_wp2_with fail
      go_ret
      have h1 := Kd.R_mono (Kd.R_bound HRr.out) (fun k hk => (hk.2.2.1 : k < _))
      have h2 := HM.out
      subst h2
      obtain ⟨A', c', e1, _, hF⟩ := Kd.R_V (base' := 0) h1
      simp only [Value.slice.injEq] at e1
      obtain ⟨rfl, _, rfl⟩ := e1
      exact ⟨A, cc, rfl, hF, HBr.out⟩
end Go.Proofs.Ytandhpnpodkemaa.M
end

section
/- '==' of a block with itself. -/
set_option linter.unusedVariables false
set_option linter.unusedSimpArgs false
set_option maxRecDepth 100000
namespace Go.Proofs.Ytandhpnpodkemaa.M
open Go.RowKit Go.Proofs.YtandhpnpodkemaaW.PrintWords
def AllInt (xs : Array Value) : Prop := ∀ i, i < xs.size → ∃ k x, xs[i]? = some (.int k x)
section
variable {P : Program}
theorem eqItems_refl (w : World) {d c : Nat} {e : TypeId} {xs : Array Value} : ∀ is : List Nat, (∀ i ∈ is, ∃ v, (part e xs (i * c)).run P w = .ok v w ∧ (Op.equalIn d e v v).run P w = .ok true w) → (Op.eqItems d e c xs xs is).run P w = .ok true w
  | [], _ => by simp [Op.eqItems]
  | i :: is, h => by
    obtain ⟨v, h1, h2⟩ := h i (by simp)
    simp only [Op.eqItems, Sem.run_bind, h1, Result.andThen_ok, h2]
    simpa using eqItems_refl w is (fun j hj => h j (by simp [hj]))
theorem eqFields_refl (w : World) {d : Nat} {xs : Array Value} : ∀ fs : List Field, (∀ f ∈ fs, ∃ v, (part f.type xs f.offset).run P w = .ok v w ∧ (Op.equalIn d f.type v v).run P w = .ok true w) → (Op.eqFields d xs xs fs).run P w = .ok true w
  | [], _ => by simp [Op.eqFields]
  | f :: fs, h => by
    obtain ⟨v, h1, h2⟩ := h f (by simp)
    have ih := eqFields_refl w fs (fun j hj => h j (by simp [hj]))
    simp only [Op.eqFields, Sem.run_ite, Sem.run_bind, h1, Result.andThen_ok, h2]
    split
    · simpa using ih
    · exact ih
theorem part_row (w : World) {e : TypeId} {kd : TypeDesc} {xs : Array Value} {off n : Nat} (hu : P.underlying e = some kd) (hr : kd.isRow = true) (hn : P.cellsOf e = n) : (part e xs off).run P w = .ok (.agg (xs.extract off (off + n))) w := by
  subst hn
  obtain ⟨i, hi⟩ := info_of_underlying hu
  cases kd <;> simp at hr <;> simp [part, isAgg, run_underlying hu, run_sizeOf w hi]
theorem AllInt.cut {xs : Array Value} (h : AllInt xs) {off n : Nat} (hs : off + n ≤ xs.size) : AllInt (xs.extract off (off + n)) ∧ (xs.extract off (off + n)).size = n := by
  have hz : (xs.extract off (off + n)).size = n := by simp; omega
  refine ⟨fun i hi => ?_, hz⟩
  rw [hz] at hi
  obtain ⟨k, x, hx⟩ := h (off + i) (by omega)
  exact ⟨k, x, by rw [Array.getElem?_extract, if_pos (by omega)]; exact hx⟩
end
theorem eq_int (w : World) (d : Nat) {t : TypeId} {q : IntKind} (hu : Try.prog.underlying t = some (.int q)) (k : IntKind) (x : Int) : (Op.equalIn (d + 1) t (.int k x) (.int k x)).run Try.prog w = .ok true w := by
  rw [run_equalIn_int w d t k q x x hu]; simp
theorem eq_data (w : World) (d : Nat) {xs : Array Value} (h : AllInt xs) (hs : xs.size = 256) : (Op.equalIn (d + 2) 74 (.agg xs) (.agg xs)).run Try.prog w = .ok true w := by
  obtain ⟨i, hi⟩ := info_of_underlying Try.underlying5
  rw [run_equalIn_array w (d + 1) xs xs Try.underlying74 hi]
  refine eqItems_refl w _ (fun j hj => ?_)
  have hj := List.mem_range.1 hj
  have hc : Try.prog.cellsOf 5 = 1 := by kernel_rfl
  rw [hc, Nat.mul_one]
  obtain ⟨k, x, hx⟩ := h j (by omega)
  exact ⟨_, run_part_plain w (by kernel_rfl) hx, eq_int w d Try.underlying5 k x⟩
theorem pageFields : (Try.prog.fieldsOf 76).toList.map (fun f => (f.type, f.offset)) = [(3, 0), (74, 1)] := by kernel_rfl
theorem blockFields : (Try.prog.fieldsOf 79).toList.map (fun f => (f.type, f.offset)) = [(77, 0), (2, 4112)] := by kernel_rfl
theorem eq_page (w : World) (d : Nat) {xs : Array Value} (h : AllInt xs) (hs : xs.size = 257) : (Op.equalIn (d + 3) 76 (.agg xs) (.agg xs)).run Try.prog w = .ok true w := by
  rw [run_equalIn_struct w (d + 2) _ xs xs (by kernel_rfl) (by kernel_rfl)]
  refine eqFields_refl w _ (fun f hf => ?_)
  have h1 : (f.type, f.offset) ∈ (Try.prog.fieldsOf 76).toList.map (fun f => (f.type, f.offset)) := List.mem_map_of_mem hf
  rw [pageFields] at h1
  simp only [List.mem_cons, Prod.mk.injEq, List.not_mem_nil, or_false] at h1
  rcases h1 with ⟨e1, e2⟩ | ⟨e1, e2⟩
  · rw [e1, e2]
    obtain ⟨k, x, hx⟩ := h 0 (by omega)
    exact ⟨_, run_part_plain w (by kernel_rfl) hx, eq_int w (d + 1) Try.underlying3 k x⟩
  · rw [e1, e2]
    obtain ⟨c1, c2⟩ := h.cut (off := 1) (n := 256) (by omega)
    exact ⟨_, part_row w Try.underlying74 rfl (by kernel_rfl), eq_data w d c1 c2⟩
theorem eq_pages (w : World) (d : Nat) {xs : Array Value} (h : AllInt xs) (hs : xs.size = 4112) : (Op.equalIn (d + 4) 77 (.agg xs) (.agg xs)).run Try.prog w = .ok true w := by
  obtain ⟨i, hi⟩ := info_of_underlying Try.underlying76
  rw [run_equalIn_array w (d + 3) xs xs Try.underlying77 hi]
  refine eqItems_refl w _ (fun j hj => ?_)
  have hj := List.mem_range.1 hj
  have hc : Try.prog.cellsOf 76 = 257 := by kernel_rfl
  rw [hc]
  obtain ⟨c1, c2⟩ := h.cut (off := j * 257) (n := 257) (by omega)
  exact ⟨_, part_row w Try.underlying76 rfl hc, eq_page w d c1 c2⟩
theorem eq_block (w : World) (d : Nat) {xs : Array Value} (h : AllInt xs) (hs : xs.size = 4113) : (Op.equalIn (d + 5) 79 (.agg xs) (.agg xs)).run Try.prog w = .ok true w := by
  rw [run_equalIn_struct w (d + 4) _ xs xs (by kernel_rfl) (by kernel_rfl)]
  refine eqFields_refl w _ (fun f hf => ?_)
  have h1 : (f.type, f.offset) ∈ (Try.prog.fieldsOf 79).toList.map (fun f => (f.type, f.offset)) := List.mem_map_of_mem hf
  rw [blockFields] at h1
  simp only [List.mem_cons, Prod.mk.injEq, List.not_mem_nil, or_false] at h1
  rcases h1 with ⟨e1, e2⟩ | ⟨e1, e2⟩
  · rw [e1, e2]
    obtain ⟨c1, c2⟩ := h.cut (off := 0) (n := 4112) (by omega)
    exact ⟨_, part_row w Try.underlying77 rfl (by kernel_rfl), eq_pages w d c1 c2⟩
  · rw [e1, e2]
    obtain ⟨k, x, hx⟩ := h 4112 (by omega)
    exact ⟨_, run_part_plain w (by kernel_rfl) hx, eq_int w (d + 3) Try.underlying2 k x⟩
end Go.Proofs.Ytandhpnpodkemaa.M
end

section
/- Same of a flash and its clone. -/
set_option linter.unusedVariables false
set_option linter.unusedSimpArgs false
set_option maxRecDepth 100000
attribute [local irreducible] Go.wpStill
namespace Go.Proofs.Ytandhpnpodkemaa.M
open Go.RowKit Go.Proofs.YtandhpnpodkemaaW.PrintWords Go.Proofs.YtandhpnpodkemaaW.PrintLast
def blkL (c : Nat → Int) (b : Nat) : List Value := (List.range 4113).map fun i => .int (kdAt (b * 4113 + i)) (c (b * 4113 + i))
theorem blkL_len (c : Nat → Int) (b : Nat) : (blkL c b).length = 4113 := by simp [blkL]
theorem blkL_int (c : Nat → Int) (b : Nat) : AllInt (blkL c b).toArray := fun i hi => by
  have : i < 4113 := by simpa [blkL] using hi
  refine ⟨kdAt (b * 4113 + i), c (b * 4113 + i), ?_⟩
  rw [List.getElem?_toArray]
  unfold blkL
  rw [List.getElem?_map, List.getElem?_range this]
  rfl
theorem IsG.range {w : World} {g n cap : Nat} {c : Nat → Int} (h : IsG w g n cap c) {b : Nat} (hb : b < n) : w.rangeAt g (b * 4113) (blkL c b) := fun j v hv => by
  obtain ⟨cur, hg, hs, hc⟩ := h
  have hj : j < 4113 := by have := (List.getElem?_eq_some_iff.1 hv).1; rw [blkL_len] at this; exact this
  unfold blkL at hv
  rw [List.getElem?_map, List.getElem?_range hj] at hv
  simp at hv
  subst hv
  rw [cell_of_row w g _ cur _ (0, 0) hg]
  exact hc _ (by
    have : (b + 1) * 4113 ≤ n * 4113 := Nat.mul_le_mul_right _ hb
    omega)
theorem IsG.below {w w' : World} {g n cap : Nat} {c : Nat → Int} (h : IsG w g n cap c) (hb : Below w.heap.size w w') : IsG w' g n cap c := by
  obtain ⟨cur, hg, r⟩ := h
  exact ⟨cur, (hb.block g (heap_ltc hg)).trans hg, r⟩
set_option maxHeartbeats 2000000 in
theorem bequal_is {w : World} {g1 g2 n cap1 cap2 : Nat} {c : Nat → Int} (h1 : IsG w g1 n cap1 c) (h2 : IsG w g2 n cap2 c) (hn : n ≤ 1024) (hc1 : n ≤ cap1) (hc2 : n ≤ cap2) :
    Calls Try.prog 49 #[.slice (some ⟨g1, 0, none⟩) n cap1, .slice (some ⟨g2, 0, none⟩) n cap2] w fun e w' => e = .returned (.bool true) ∧ Below w.heap.size w w' := by
  have H1 := Lib.hid h1; have H2 := Lib.hid h2
  clear h1 h2
  have hu := Try.underlying79
  have hgd : Try.prog.eqGuardType Try.prog.depth 79 = false := by kernel_rfl
  go_enter Try.func49, Try.ntmps49
  go_wp2_with fail
  go_loopw [13] (fun i W => ∃ j : Nat, i = .int .i64 (j : Int) ∧ j ≤ n ∧ Below w.heap.size w W) (fun i _ => n - (intOf i).toNat)
  case atStart => exact ⟨0, rfl, Nat.zero_le _, Below.refl _ _⟩
  case round =>
    obtain ⟨j, rfl, hj, hB⟩ := hrel
    have HB := Lib.hid hB
    by_cases hlt : j < n
    · have q1 : decide (j < n) = true := decide_eq_true hlt
      have q2 : decide ((j : Int) < (n : Int)) = true := decide_eq_true (by omega)
      have HLT := Lib.hid hlt
      have i1 : (j : Int) < (n : Int) := by omega
      have i0 : (0 : Int) ≤ (j : Int) := by omega
      have r1 := (H1.out.below hB).range hlt
      have r2 := (H2.out.below hB).range hlt
      obtain ⟨cs, hcs⟩ : ∃ cs, blkL c j = cs := ⟨_, rfl⟩
      have hq : ∀ W : World, (Op.equalIn 10000 79 (.agg cs.toArray) (.agg cs.toArray)).run Try.prog W = .ok true W := fun W => by
        rw [← hcs]
        exact eq_block W 9995 (blkL_int c j) (by rw [List.size_toArray, blkL_len])
      have hlen : cs.length = 4113 := by rw [← hcs]; exact blkL_len c j
      rw [hcs] at r1 r2
      have hsz : (Try.prog.info? 79).map (·.size) = some cs.length := by rw [hlen]; kernel_rfl
      clear hcs hlt hB
      go_wp2_with fail
      have r1d : wr.drew.rangeAt g1 (j * 4113) cs := r1
      have r2d : wr.drew.rangeAt g2 (j * 4113) cs := r2
      refine start_ (n := 9) (S := fun w' => w'.rangeAt g1 (j * 4113) cs ∧ w'.rangeAt g2 (j * 4113) cs) (ds := []) #[false, false, false, false, false, false, false, false, false] (by kernel_rfl) rfl rfl ⟨r1d, r2d⟩ (fun hHeld => ?_)
      refine pure_ (i := 0) (N := some 16) (v := ?_) (a' := ?_) #[true, false, false, false, false, false, false, false, false] rfl rfl (by kernel_rfl) (fun _ _ _ h => h) (Or.inl ⟨by rfl, ?_⟩) ?_ ?_
      rotate_left
      · intro w'
        go_simp
        try with_reducible rfl
      rotate_left
      · simp only [Act.put, List.setIfInBounds_toArray, List.set_cons_zero, List.set_cons_succ, i64_w, i32_w]
        rfl
      refine pure_ (i := 1) (N := some 17) (v := ?_) (a' := ?_) #[true, true, false, false, false, false, false, false, false] rfl rfl (by kernel_rfl) (fun _ _ _ h => h) (Or.inl ⟨by rfl, ?_⟩) ?_ ?_
      rotate_left
      · intro w'
        go_simp
        try with_reducible rfl
      rotate_left
      · simp only [Act.put, List.setIfInBounds_toArray, List.set_cons_zero, List.set_cons_succ, i64_w, i32_w]
        rfl
      refine pure_ (i := 2) (N := some 18) (v := ?_) (a' := ?_) #[true, true, true, false, false, false, false, false, false] rfl rfl (by kernel_rfl) (fun _ _ _ h => h) (Or.inl ⟨by rfl, ?_⟩) ?_ ?_
      rotate_left
      · intro w'
        go_simp
        try with_reducible rfl
      rotate_left
      · simp only [Act.put, List.setIfInBounds_toArray, List.set_cons_zero, List.set_cons_succ, i64_w, i32_w]
        rfl
      refine take_ (i := 3) (N := some 19) (v := .agg cs.toArray) (a' := ?_) #[true, true, true, true, false, false, false, false, false] rfl rfl (by kernel_rfl) (fun _ _ _ h => h) (yieldsIf_load_mid (by rfl) _ (.tmp 18) rfl g1 (j * 4113) rfl cs _ (fun w' hS => hS.1) hu rfl hsz) hHeld ?_ ?_
      rotate_left
      · simp only [Act.put, List.setIfInBounds_toArray, List.set_cons_zero, List.set_cons_succ, i64_w, i32_w]
        rfl
      refine pure_ (i := 4) (N := some 20) (v := ?_) (a' := ?_) #[true, true, true, true, true, false, false, false, false] rfl rfl (by kernel_rfl) (fun _ _ _ h => h) (Or.inl ⟨by rfl, ?_⟩) ?_ ?_
      rotate_left
      · intro w'
        go_simp
        try with_reducible rfl
      rotate_left
      · simp only [Act.put, List.setIfInBounds_toArray, List.set_cons_zero, List.set_cons_succ, i64_w, i32_w]
        rfl
      refine pure_ (i := 5) (N := some 21) (v := ?_) (a' := ?_) #[true, true, true, true, true, true, false, false, false] rfl rfl (by kernel_rfl) (fun _ _ _ h => h) (Or.inl ⟨by rfl, ?_⟩) ?_ ?_
      rotate_left
      · intro w'
        go_simp
        try with_reducible rfl
      rotate_left
      · simp only [Act.put, List.setIfInBounds_toArray, List.set_cons_zero, List.set_cons_succ, i64_w, i32_w]
        rfl
      refine pure_ (i := 6) (N := some 22) (v := ?_) (a' := ?_) #[true, true, true, true, true, true, true, false, false] rfl rfl (by kernel_rfl) (fun _ _ _ h => h) (Or.inl ⟨by rfl, ?_⟩) ?_ ?_
      rotate_left
      · intro w'
        go_simp
        try with_reducible rfl
      rotate_left
      · simp only [Act.put, List.setIfInBounds_toArray, List.set_cons_zero, List.set_cons_succ, i64_w, i32_w]
        rfl
      refine take_ (i := 7) (N := some 23) (v := .agg cs.toArray) (a' := ?_) #[true, true, true, true, true, true, true, true, false] rfl rfl (by kernel_rfl) (fun _ _ _ h => h) (yieldsIf_load_mid (by rfl) _ (.tmp 22) rfl g2 (j * 4113) rfl cs _ (fun w' hS => hS.2) hu rfl hsz) hHeld ?_ ?_
      rotate_left
      · simp only [Act.put, List.setIfInBounds_toArray, List.set_cons_zero, List.set_cons_succ, i64_w, i32_w]
        rfl
      refine pure_ (i := 8) (N := some 24) (v := ?_) (a' := ?_) #[true, true, true, true, true, true, true, true, true] rfl rfl (by kernel_rfl) (fun _ _ _ h => h) (Or.inl ⟨by rfl, ?_⟩) ?_ ?_
      rotate_left
      · intro w'
        go_simp
        try with_reducible rfl
      rotate_left
      · simp only [Act.put, List.setIfInBounds_toArray, List.set_cons_zero, List.set_cons_succ, i64_w, i32_w]
        rfl
      refine done_ (by kernel_rfl) ?_
      go_wp2_with fail
      go_roundw
      case rel => exact ⟨j + 1, by go_num, HLT.out, HB.out.drew⟩
      case measure => have := HLT.out; simp [intOf]; omega
    · have q1 : decide (j < n) = false := decide_eq_false hlt
      have q2 : decide ((j : Int) < (n : Int)) = false := decide_eq_false (by omega)
      clear hlt
      go_wp2_with fail
      go_ret
      exact ⟨rfl, HB.out⟩
end Go.Proofs.Ytandhpnpodkemaa.M
end

section
/- Same of a flash's clone and the flash: true. -/
set_option linter.unusedVariables false
set_option linter.unusedSimpArgs false
set_option maxRecDepth 100000
attribute [local irreducible] Go.wpStill
namespace Go.Proofs.Ytandhpnpodkemaa.M
open Go.RowKit Go.Proofs.YtandhpnpodkemaaW.PrintWords Go.Proofs.YtandhpnpodkemaaW.PrintLast
def same3_T : Bool × List (List Nat × List Nat) := (true, [([], []), ([0], [0]), ([1], [1]), ([2], [2]), ([], []), ([4], [4]), ([5], [5]), ([6], [6]), ([3, 7], [3, 7]), ([8, 8], [8]), ([9], [9]), ([10, 9], [9, 10]), ([11, 9], [9, 11]), ([12, 9], [9, 12]), ([9], [9]), ([14, 9], [9, 14]), ([15, 9], [9, 15]), ([16, 9], [9, 16]), ([13, 17, 9], [9, 13, 17]), ([9, 18], [9, 18]), ([19, 9], [19]), ([20], [20]), ([21, 20], [20, 21]), ([22, 20], [20, 22]), ([23, 20], [20, 23]), ([24, 20], [20, 24]), ([25, 20, 20], [20, 25]), ([26], [26]), ([27, 26], [26, 27]), ([28, 26], [26, 28]), ([29, 26], [26, 29]), ([26], [26]), ([31, 26], [26, 31]), ([32, 26], [26, 32]), ([33, 26], [26, 33]), ([30, 34, 26], [26, 30, 34]), ([26, 35, 20], [20, 26, 35]), ([20, 36], [20, 36]), ([37, 26], [37]), ([38], [38]), ([39, 38], [38, 39]), ([40, 38], [38, 40]), ([41, 38], [38, 41]), ([38], [38]), ([43, 38], [38, 43]), ([44, 38], [38, 44]), ([45, 38], [38, 45]), ([42, 46, 38], [38, 42, 46]), ([38, 47], [38, 47]), ([48, 38, 0, 1, 2, 3, 4, 5, 6, 7, 8, 9, 10, 11, 12, 13, 14, 15, 16, 17, 18, 19, 20, 21, 22, 23, 24, 25, 26, 27, 28, 29, 30, 31, 32, 33, 34, 35, 36, 37, 38, 39, 40, 41, 42, 43, 44, 45, 46, 47, 48], [48])])
def same3_B : List Nat := [0, 1, 3, 7, 0, 16, 48, 112, 255, 511, 1023, 2047, 4095, 8191, 1023, 17407, 50175, 115711, 262143, 524287, 1048575, 2097151, 4194303, 8388607, 16777215, 33554431, 67108863, 134217727, 268435455, 536870911, 1073741823, 134217727, 2281701375, 6576668671, 15166603263, 34359738367, 68719476735, 137438953471, 274877906943, 549755813887, 1099511627775, 2199023255551, 4398046511103, 549755813887, 9345848836095, 26938034880511, 62122406969343, 140737488355327, 281474976710655, 562949953421311]
theorem same3_tab : rtab .any (opsOf Try.f25 3) = same3_T := by kernel_rfl
theorem same3_bits : waitsOk same3_T.2 same3_B = true := by kernel_rfl
set_option maxHeartbeats 4000000 in
theorem same_is {w : World} {f1 g1 f2 g2 cap : Nat} {fl : Fl} (h1 : IsF w f1 g1 (cloneF fl cap)) (h2 : IsF w f2 g2 fl) :
    Calls Try.prog 25 #[.pointer (some ⟨f1, 0, none⟩), .pointer (some ⟨f2, 0, none⟩)] w fun e w' => e = .returned (.bool true) ∧ Below w.heap.size w w' := by
  have HN1 := Lib.hid (none_is h1); have HN2 := Lib.hid (none_is h2)
  have e1 : IsG w.drew g1 fl.n cap fl.c := h1.drew.gh
  have e2 : IsG w.drew g2 fl.n fl.cap fl.c := h2.drew.gh
  have n1 : fl.n ≤ cap := h1.nc
  have HE := Lib.hid (bequal_is e1 e2 h2.n2 n1 h2.nc)
  clear e1 e2 n1
  have H1 := Lib.hid h1; have H2 := Lib.hid h2
  have a0 : w.cell? ⟨f1, 0, none⟩ = some (.slice (some ⟨g1, 0, none⟩) fl.n cap) := h1.c0
  have a1 : w.cell? ⟨f1, 1, none⟩ = some (.int .i64 fl.fuse) := h1.c1
  have a2 : w.cell? ⟨f1, 2, none⟩ = some (.int .i64 fl.keep) := h1.c2
  have a3 : w.cell? ⟨f1, 3, none⟩ = some (.bool fl.down) := h1.c3
  have b0 := h2.c0; have b1 := h2.c1; have b2 := h2.c2; have b3 := h2.c3
  obtain ⟨nn, hnn⟩ : ∃ nn, fl.n = nn := ⟨_, rfl⟩
  obtain ⟨cc, hcc⟩ : ∃ cc, fl.cap = cc := ⟨_, rfl⟩
  obtain ⟨fu, hfu⟩ : ∃ fu, fl.fuse = fu := ⟨_, rfl⟩
  obtain ⟨ke, hke⟩ : ∃ ke, fl.keep = ke := ⟨_, rfl⟩
  obtain ⟨dn, hdn⟩ : ∃ dn, fl.down = dn := ⟨_, rfl⟩
  have F1 := Lib.hid h1.flt; have F2 := Lib.hid h2.flt
  rw [hnn, hcc] at HE b0
  rw [hnn] at a0
  rw [hfu] at a1 b1
  rw [hke] at a2 b2
  rw [hdn] at a3 b3
  clear h1 h2 hnn hcc hfu hke hdn
  have q1 : (fu == fu) = true := by simp
  have q2 : (ke == ke) = true := by simp
  have q3 : (dn == dn) = true := by simp
  by_cases hz : fu = 0
  · have q0 : (fu == 0) = true := by rw [hz]; rfl
    clear hz
    go_enter Try.func25, Try.ntmps25
    go_wp2_with fail
    refine HN1.out.mono ?_
    rintro e w1 ⟨rfl, rfl⟩
    go_wp2_with fail
    refine HN2.out.mono ?_
    rintro e w1 ⟨rfl, rfl⟩
    go_upto_region 3 with fail
    refine start_ (n := 50) (S := fun w' => w'.cell? ⟨f1, 0, none⟩ = some (.slice (some ⟨g1, 0, none⟩) nn cap) ∧ w'.cell? ⟨f2, 0, none⟩ = some (.slice (some ⟨g2, 0, none⟩) nn cc) ∧ w'.cell? ⟨f1, 1, none⟩ = some (.int .i64 fu) ∧ w'.cell? ⟨f2, 1, none⟩ = some (.int .i64 fu) ∧ w'.cell? ⟨f1, 2, none⟩ = some (.int .i64 ke) ∧ w'.cell? ⟨f2, 2, none⟩ = some (.int .i64 ke) ∧ w'.cell? ⟨f1, 3, none⟩ = some (.bool dn) ∧ w'.cell? ⟨f2, 3, none⟩ = some (.bool dn)) (ds := []) #[false, false, false, false, false, false, false, false, false, false, false, false, false, false, false, false, false, false, false, false, false, false, false, false, false, false, false, false, false, false, false, false, false, false, false, false, false, false, false, false, false, false, false, false, false, false, false, false, false, false] (by kernel_rfl) rfl rfl ⟨a0, b0, a1, b1, a2, b2, a3, b3⟩ (fun hHeld => ?_)
    refine with_tabW same3_tab same3_bits (fun HT_ HW_ => ?_)
    refine pure_ (i := 0) (N := some 11) (v := ?_) (a' := ?_) #[true, false, false, false, false, false, false, false, false, false, false, false, false, false, false, false, false, false, false, false, false, false, false, false, false, false, false, false, false, false, false, false, false, false, false, false, false, false, false, false, false, false, false, false, false, false, false, false, false, false] rfl rfl (any_of HT_.out (by kernel_rfl)) (fun _ _ _ h => h) (Or.inl ⟨by rfl, ?_⟩) ?_ ?_
    rotate_left
    · intro w'
      go_simp
      try with_reducible rfl
    rotate_left
    · simp only [Act.put, List.setIfInBounds_toArray, List.set_cons_zero, List.set_cons_succ, i64_w, i32_w]
      rfl
    refine pure_ (i := 1) (N := some 12) (v := ?_) (a' := ?_) #[true, true, false, false, false, false, false, false, false, false, false, false, false, false, false, false, false, false, false, false, false, false, false, false, false, false, false, false, false, false, false, false, false, false, false, false, false, false, false, false, false, false, false, false, false, false, false, false, false, false] rfl rfl (any_of HT_.out (by kernel_rfl)) (fun _ _ _ h => h) (Or.inl ⟨by rfl, ?_⟩) ?_ ?_
    rotate_left
    · intro w'
      go_simp
      try with_reducible rfl
    rotate_left
    · simp only [Act.put, List.setIfInBounds_toArray, List.set_cons_zero, List.set_cons_succ, i64_w, i32_w]
      rfl
    refine pure_ (i := 2) (N := some 13) (v := ?_) (a' := ?_) #[true, true, true, false, false, false, false, false, false, false, false, false, false, false, false, false, false, false, false, false, false, false, false, false, false, false, false, false, false, false, false, false, false, false, false, false, false, false, false, false, false, false, false, false, false, false, false, false, false, false] rfl rfl (any_of HT_.out (by kernel_rfl)) (fun _ _ _ h => h) (Or.inl ⟨by rfl, ?_⟩) ?_ ?_
    rotate_left
    · intro w'
      go_simp
      try with_reducible rfl
    rotate_left
    · simp only [Act.put, List.setIfInBounds_toArray, List.set_cons_zero, List.set_cons_succ, i64_w, i32_w]
      rfl
    refine take_ (i := 3) (N := some 14) (v := ?_) (a' := ?_) #[true, true, true, true, false, false, false, false, false, false, false, false, false, false, false, false, false, false, false, false, false, false, false, false, false, false, false, false, false, false, false, false, false, false, false, false, false, false, false, false, false, false, false, false, false, false, false, false, false, false] rfl rfl (take_ofW HT_.out HW_.out (by kernel_rfl)) (fun _ _ _ h => h) (Or.inl ⟨by rfl, ?_⟩) hHeld ?_ ?_
    rotate_left
    · intro w' hS
      have hS := hS.1
      go_simp
      try with_reducible rfl
    rotate_left
    · simp only [Act.put, List.setIfInBounds_toArray, List.set_cons_zero, List.set_cons_succ, i64_w, i32_w]
      rfl
    refine pure_ (i := 4) (N := some 15) (v := ?_) (a' := ?_) #[true, true, true, true, true, false, false, false, false, false, false, false, false, false, false, false, false, false, false, false, false, false, false, false, false, false, false, false, false, false, false, false, false, false, false, false, false, false, false, false, false, false, false, false, false, false, false, false, false, false] rfl rfl (any_of HT_.out (by kernel_rfl)) (fun _ _ _ h => h) (Or.inl ⟨by rfl, ?_⟩) ?_ ?_
    rotate_left
    · intro w'
      go_simp
      try with_reducible rfl
    rotate_left
    · simp only [Act.put, List.setIfInBounds_toArray, List.set_cons_zero, List.set_cons_succ, i64_w, i32_w]
      rfl
    refine pure_ (i := 5) (N := some 16) (v := ?_) (a' := ?_) #[true, true, true, true, true, true, false, false, false, false, false, false, false, false, false, false, false, false, false, false, false, false, false, false, false, false, false, false, false, false, false, false, false, false, false, false, false, false, false, false, false, false, false, false, false, false, false, false, false, false] rfl rfl (any_of HT_.out (by kernel_rfl)) (fun _ _ _ h => h) (Or.inl ⟨by rfl, ?_⟩) ?_ ?_
    rotate_left
    · intro w'
      go_simp
      try with_reducible rfl
    rotate_left
    · simp only [Act.put, List.setIfInBounds_toArray, List.set_cons_zero, List.set_cons_succ, i64_w, i32_w]
      rfl
    refine pure_ (i := 6) (N := some 17) (v := ?_) (a' := ?_) #[true, true, true, true, true, true, true, false, false, false, false, false, false, false, false, false, false, false, false, false, false, false, false, false, false, false, false, false, false, false, false, false, false, false, false, false, false, false, false, false, false, false, false, false, false, false, false, false, false, false] rfl rfl (any_of HT_.out (by kernel_rfl)) (fun _ _ _ h => h) (Or.inl ⟨by rfl, ?_⟩) ?_ ?_
    rotate_left
    · intro w'
      go_simp
      try with_reducible rfl
    rotate_left
    · simp only [Act.put, List.setIfInBounds_toArray, List.set_cons_zero, List.set_cons_succ, i64_w, i32_w]
      rfl
    refine take_ (i := 7) (N := some 18) (v := ?_) (a' := ?_) #[true, true, true, true, true, true, true, true, false, false, false, false, false, false, false, false, false, false, false, false, false, false, false, false, false, false, false, false, false, false, false, false, false, false, false, false, false, false, false, false, false, false, false, false, false, false, false, false, false, false] rfl rfl (take_ofW HT_.out HW_.out (by kernel_rfl)) (fun _ _ _ h => h) (Or.inl ⟨by rfl, ?_⟩) hHeld ?_ ?_
    rotate_left
    · intro w' hS
      have hS := hS.2.1
      go_simp
      try with_reducible rfl
    rotate_left
    · simp only [Act.put, List.setIfInBounds_toArray, List.set_cons_zero, List.set_cons_succ, i64_w, i32_w]
      rfl
    refine one_ (i := 8) (N := some 19) #[true, true, true, true, true, true, true, true, true, false, false, false, false, false, false, false, false, false, false, false, false, false, false, false, false, false, false, false, false, false, false, false, false, false, false, false, false, false, false, false, false, false, false, false, false, false, false, false, false, false] rfl rfl (one_of HT_.out (by kernel_rfl)) (by decide) (fun K hK => ?_)
    go_simp
    refine HE.out.mono ?_
    rintro e w2 ⟨rfl, hb⟩
    have HB := Lib.hid hb
    have k0 : ∀ i, w2.cell? ⟨f1, i, none⟩ = w.cell? ⟨f1, i, none⟩ := fun i => hb.cell (p := ⟨f1, i, none⟩) F1.out
    have k1 : ∀ i, w2.cell? ⟨f2, i, none⟩ = w.cell? ⟨f2, i, none⟩ := fun i => hb.cell (p := ⟨f2, i, none⟩) F2.out
    refine hK.out _ _ ⟨(k0 0).trans a0, (k1 0).trans b0, (k0 1).trans a1, (k1 1).trans b1, (k0 2).trans a2, (k1 2).trans b2, (k0 3).trans a3, (k1 3).trans b3⟩ (fun hHeld => ?_)
    clear hK K
    clear k0 k1 hb
    refine pure_ (i := 9) (N := some 20) (v := ?_) (a' := ?_) #[true, true, true, true, true, true, true, true, true, true, false, false, false, false, false, false, false, false, false, false, false, false, false, false, false, false, false, false, false, false, false, false, false, false, false, false, false, false, false, false, false, false, false, false, false, false, false, false, false, false] rfl rfl (any_of HT_.out (by kernel_rfl)) (fun _ _ _ h => h) (Or.inl ⟨by rfl, ?_⟩) ?_ ?_
    rotate_left
    · intro w'
      go_simp
      try with_reducible rfl
    rotate_left
    · simp only [Act.put, List.setIfInBounds_toArray, List.set_cons_zero, List.set_cons_succ, i64_w, i32_w]
      rfl
    refine pure_ (i := 10) (N := some 21) (v := ?_) (a' := ?_) #[true, true, true, true, true, true, true, true, true, true, true, false, false, false, false, false, false, false, false, false, false, false, false, false, false, false, false, false, false, false, false, false, false, false, false, false, false, false, false, false, false, false, false, false, false, false, false, false, false, false] rfl rfl (any_of HT_.out (by kernel_rfl)) (fun _ _ _ h => h) (Or.inl ⟨by rfl, ?_⟩) ?_ ?_
    rotate_left
    · intro w'
      go_simp
      try with_reducible rfl
    rotate_left
    · simp only [Act.put, List.setIfInBounds_toArray, List.set_cons_zero, List.set_cons_succ, i64_w, i32_w]
      rfl
    refine pure_ (i := 11) (N := some 22) (v := ?_) (a' := ?_) #[true, true, true, true, true, true, true, true, true, true, true, true, false, false, false, false, false, false, false, false, false, false, false, false, false, false, false, false, false, false, false, false, false, false, false, false, false, false, false, false, false, false, false, false, false, false, false, false, false, false] rfl rfl (any_of HT_.out (by kernel_rfl)) (fun _ _ _ h => h) (Or.inl ⟨by rfl, ?_⟩) ?_ ?_
    rotate_left
    · intro w'
      go_simp
      try with_reducible rfl
    rotate_left
    · simp only [Act.put, List.setIfInBounds_toArray, List.set_cons_zero, List.set_cons_succ, i64_w, i32_w]
      rfl
    refine pure_ (i := 12) (N := some 23) (v := ?_) (a' := ?_) #[true, true, true, true, true, true, true, true, true, true, true, true, true, false, false, false, false, false, false, false, false, false, false, false, false, false, false, false, false, false, false, false, false, false, false, false, false, false, false, false, false, false, false, false, false, false, false, false, false, false] rfl rfl (any_of HT_.out (by kernel_rfl)) (fun _ _ _ h => h) (Or.inl ⟨by rfl, ?_⟩) ?_ ?_
    rotate_left
    · intro w'
      go_simp
      try with_reducible rfl
    rotate_left
    · simp only [Act.put, List.setIfInBounds_toArray, List.set_cons_zero, List.set_cons_succ, i64_w, i32_w]
      rfl
    refine take_ (i := 13) (N := some 24) (v := ?_) (a' := ?_) #[true, true, true, true, true, true, true, true, true, true, true, true, true, true, false, false, false, false, false, false, false, false, false, false, false, false, false, false, false, false, false, false, false, false, false, false, false, false, false, false, false, false, false, false, false, false, false, false, false, false] rfl rfl (take_ofW HT_.out HW_.out (by kernel_rfl)) (fun _ _ _ h => h) (Or.inl ⟨by rfl, ?_⟩) hHeld ?_ ?_
    rotate_left
    · intro w' hS
      have hS := hS.2.2.1
      go_simp
      try with_reducible rfl
    rotate_left
    · simp only [Act.put, List.setIfInBounds_toArray, List.set_cons_zero, List.set_cons_succ, i64_w, i32_w]
      rfl
    refine pure_ (i := 14) (N := some 25) (v := ?_) (a' := ?_) #[true, true, true, true, true, true, true, true, true, true, true, true, true, true, true, false, false, false, false, false, false, false, false, false, false, false, false, false, false, false, false, false, false, false, false, false, false, false, false, false, false, false, false, false, false, false, false, false, false, false] rfl rfl (any_of HT_.out (by kernel_rfl)) (fun _ _ _ h => h) (Or.inl ⟨by rfl, ?_⟩) ?_ ?_
    rotate_left
    · intro w'
      go_simp
      try with_reducible rfl
    rotate_left
    · simp only [Act.put, List.setIfInBounds_toArray, List.set_cons_zero, List.set_cons_succ, i64_w, i32_w]
      rfl
    refine pure_ (i := 15) (N := some 26) (v := ?_) (a' := ?_) #[true, true, true, true, true, true, true, true, true, true, true, true, true, true, true, true, false, false, false, false, false, false, false, false, false, false, false, false, false, false, false, false, false, false, false, false, false, false, false, false, false, false, false, false, false, false, false, false, false, false] rfl rfl (any_of HT_.out (by kernel_rfl)) (fun _ _ _ h => h) (Or.inl ⟨by rfl, ?_⟩) ?_ ?_
    rotate_left
    · intro w'
      go_simp
      try with_reducible rfl
    rotate_left
    · simp only [Act.put, List.setIfInBounds_toArray, List.set_cons_zero, List.set_cons_succ, i64_w, i32_w]
      rfl
    refine pure_ (i := 16) (N := some 27) (v := ?_) (a' := ?_) #[true, true, true, true, true, true, true, true, true, true, true, true, true, true, true, true, true, false, false, false, false, false, false, false, false, false, false, false, false, false, false, false, false, false, false, false, false, false, false, false, false, false, false, false, false, false, false, false, false, false] rfl rfl (any_of HT_.out (by kernel_rfl)) (fun _ _ _ h => h) (Or.inl ⟨by rfl, ?_⟩) ?_ ?_
    rotate_left
    · intro w'
      go_simp
      try with_reducible rfl
    rotate_left
    · simp only [Act.put, List.setIfInBounds_toArray, List.set_cons_zero, List.set_cons_succ, i64_w, i32_w]
      rfl
    refine take_ (i := 17) (N := some 28) (v := ?_) (a' := ?_) #[true, true, true, true, true, true, true, true, true, true, true, true, true, true, true, true, true, true, false, false, false, false, false, false, false, false, false, false, false, false, false, false, false, false, false, false, false, false, false, false, false, false, false, false, false, false, false, false, false, false] rfl rfl (take_ofW HT_.out HW_.out (by kernel_rfl)) (fun _ _ _ h => h) (Or.inl ⟨by rfl, ?_⟩) hHeld ?_ ?_
    rotate_left
    · intro w' hS
      have hS := hS.2.2.2.1
      go_simp
      try with_reducible rfl
    rotate_left
    · simp only [Act.put, List.setIfInBounds_toArray, List.set_cons_zero, List.set_cons_succ, i64_w, i32_w]
      rfl
    refine pure_ (i := 18) (N := some 29) (v := ?_) (a' := ?_) #[true, true, true, true, true, true, true, true, true, true, true, true, true, true, true, true, true, true, true, false, false, false, false, false, false, false, false, false, false, false, false, false, false, false, false, false, false, false, false, false, false, false, false, false, false, false, false, false, false, false] rfl rfl (any_of HT_.out (by kernel_rfl)) (fun _ _ _ h => h) (Or.inl ⟨by rfl, ?_⟩) ?_ ?_
    rotate_left
    · intro w'
      go_simp
      try with_reducible rfl
    rotate_left
    · simp only [Act.put, List.setIfInBounds_toArray, List.set_cons_zero, List.set_cons_succ, i64_w, i32_w]
      rfl
    refine pure_ (i := 19) (N := some 30) (v := ?_) (a' := ?_) #[true, true, true, true, true, true, true, true, true, true, true, true, true, true, true, true, true, true, true, true, false, false, false, false, false, false, false, false, false, false, false, false, false, false, false, false, false, false, false, false, false, false, false, false, false, false, false, false, false, false] rfl rfl (any_of HT_.out (by kernel_rfl)) (fun _ _ _ h => h) (Or.inl ⟨by rfl, ?_⟩) ?_ ?_
    rotate_left
    · intro w'
      go_simp
      try with_reducible rfl
    rotate_left
    · simp only [Act.put, List.setIfInBounds_toArray, List.set_cons_zero, List.set_cons_succ, i64_w, i32_w]
      rfl
    refine pure_ (i := 20) (N := some 31) (v := ?_) (a' := ?_) #[true, true, true, true, true, true, true, true, true, true, true, true, true, true, true, true, true, true, true, true, true, false, false, false, false, false, false, false, false, false, false, false, false, false, false, false, false, false, false, false, false, false, false, false, false, false, false, false, false, false] rfl rfl (any_of HT_.out (by kernel_rfl)) (fun _ _ _ h => h) (Or.inl ⟨by rfl, ?_⟩) ?_ ?_
    rotate_left
    · intro w'
      go_simp
      try with_reducible rfl
    rotate_left
    · simp only [Act.put, List.setIfInBounds_toArray, List.set_cons_zero, List.set_cons_succ, i64_w, i32_w]
      rfl
    refine pure_ (i := 21) (N := some 32) (v := ?_) (a' := ?_) #[true, true, true, true, true, true, true, true, true, true, true, true, true, true, true, true, true, true, true, true, true, true, false, false, false, false, false, false, false, false, false, false, false, false, false, false, false, false, false, false, false, false, false, false, false, false, false, false, false, false] rfl rfl (any_of HT_.out (by kernel_rfl)) (fun _ _ _ h => h) (Or.inl ⟨by rfl, ?_⟩) ?_ ?_
    rotate_left
    · intro w'
      go_simp
      try with_reducible rfl
    rotate_left
    · simp only [Act.put, List.setIfInBounds_toArray, List.set_cons_zero, List.set_cons_succ, i64_w, i32_w]
      rfl
    refine pure_ (i := 22) (N := some 33) (v := ?_) (a' := ?_) #[true, true, true, true, true, true, true, true, true, true, true, true, true, true, true, true, true, true, true, true, true, true, true, false, false, false, false, false, false, false, false, false, false, false, false, false, false, false, false, false, false, false, false, false, false, false, false, false, false, false] rfl rfl (any_of HT_.out (by kernel_rfl)) (fun _ _ _ h => h) (Or.inl ⟨by rfl, ?_⟩) ?_ ?_
    rotate_left
    · intro w'
      go_simp
      try with_reducible rfl
    rotate_left
    · simp only [Act.put, List.setIfInBounds_toArray, List.set_cons_zero, List.set_cons_succ, i64_w, i32_w]
      rfl
    refine pure_ (i := 23) (N := some 34) (v := ?_) (a' := ?_) #[true, true, true, true, true, true, true, true, true, true, true, true, true, true, true, true, true, true, true, true, true, true, true, true, false, false, false, false, false, false, false, false, false, false, false, false, false, false, false, false, false, false, false, false, false, false, false, false, false, false] rfl rfl (any_of HT_.out (by kernel_rfl)) (fun _ _ _ h => h) (Or.inl ⟨by rfl, ?_⟩) ?_ ?_
    rotate_left
    · intro w'
      go_simp
      try with_reducible rfl
    rotate_left
    · simp only [Act.put, List.setIfInBounds_toArray, List.set_cons_zero, List.set_cons_succ, i64_w, i32_w]
      rfl
    refine take_ (i := 24) (N := some 35) (v := ?_) (a' := ?_) #[true, true, true, true, true, true, true, true, true, true, true, true, true, true, true, true, true, true, true, true, true, true, true, true, true, false, false, false, false, false, false, false, false, false, false, false, false, false, false, false, false, false, false, false, false, false, false, false, false, false] rfl rfl (take_ofW HT_.out HW_.out (by kernel_rfl)) (fun _ _ _ h => h) (Or.inl ⟨by rfl, ?_⟩) hHeld ?_ ?_
    rotate_left
    · intro w' hS
      have hS := hS.2.2.1
      go_simp
      try with_reducible rfl
    rotate_left
    · simp only [Act.put, List.setIfInBounds_toArray, List.set_cons_zero, List.set_cons_succ, i64_w, i32_w]
      rfl
    refine pure_ (i := 25) (N := some 36) (v := ?_) (a' := ?_) #[true, true, true, true, true, true, true, true, true, true, true, true, true, true, true, true, true, true, true, true, true, true, true, true, true, true, false, false, false, false, false, false, false, false, false, false, false, false, false, false, false, false, false, false, false, false, false, false, false, false] rfl rfl (any_of HT_.out (by kernel_rfl)) (fun _ _ _ h => h) (Or.inl ⟨by rfl, ?_⟩) ?_ ?_
    rotate_left
    · intro w'
      go_simp
      try with_reducible rfl
    rotate_left
    · simp only [Act.put, List.setIfInBounds_toArray, List.set_cons_zero, List.set_cons_succ, i64_w, i32_w]
      rfl
    refine pure_ (i := 26) (N := some 37) (v := ?_) (a' := ?_) #[true, true, true, true, true, true, true, true, true, true, true, true, true, true, true, true, true, true, true, true, true, true, true, true, true, true, true, false, false, false, false, false, false, false, false, false, false, false, false, false, false, false, false, false, false, false, false, false, false, false] rfl rfl (any_of HT_.out (by kernel_rfl)) (fun _ _ _ h => h) (Or.inl ⟨by rfl, ?_⟩) ?_ ?_
    rotate_left
    · intro w'
      go_simp
      try with_reducible rfl
    rotate_left
    · simp only [Act.put, List.setIfInBounds_toArray, List.set_cons_zero, List.set_cons_succ, i64_w, i32_w]
      rfl
    refine pure_ (i := 27) (N := some 38) (v := undef) (a' := ?_) #[true, true, true, true, true, true, true, true, true, true, true, true, true, true, true, true, true, true, true, true, true, true, true, true, true, true, true, true, false, false, false, false, false, false, false, false, false, false, false, false, false, false, false, false, false, false, false, false, false, false] rfl rfl (any_of HT_.out (by kernel_rfl)) (fun _ _ _ h => h) (Or.inr ⟨by rfl, rfl⟩) ?_ ?_
    rotate_left
    · simp only [Act.put, List.setIfInBounds_toArray, List.set_cons_zero, List.set_cons_succ, i64_w, i32_w]
      rfl
    refine pure_ (i := 28) (N := some 39) (v := undef) (a' := ?_) #[true, true, true, true, true, true, true, true, true, true, true, true, true, true, true, true, true, true, true, true, true, true, true, true, true, true, true, true, true, false, false, false, false, false, false, false, false, false, false, false, false, false, false, false, false, false, false, false, false, false] rfl rfl (any_of HT_.out (by kernel_rfl)) (fun _ _ _ h => h) (Or.inr ⟨by rfl, rfl⟩) ?_ ?_
    rotate_left
    · simp only [Act.put, List.setIfInBounds_toArray, List.set_cons_zero, List.set_cons_succ, i64_w, i32_w]
      rfl
    refine pure_ (i := 29) (N := some 40) (v := undef) (a' := ?_) #[true, true, true, true, true, true, true, true, true, true, true, true, true, true, true, true, true, true, true, true, true, true, true, true, true, true, true, true, true, true, false, false, false, false, false, false, false, false, false, false, false, false, false, false, false, false, false, false, false, false] rfl rfl (any_of HT_.out (by kernel_rfl)) (fun _ _ _ h => h) (Or.inr ⟨by rfl, rfl⟩) ?_ ?_
    rotate_left
    · simp only [Act.put, List.setIfInBounds_toArray, List.set_cons_zero, List.set_cons_succ, i64_w, i32_w]
      rfl
    refine pure_ (i := 30) (N := some 41) (v := undef) (a' := ?_) #[true, true, true, true, true, true, true, true, true, true, true, true, true, true, true, true, true, true, true, true, true, true, true, true, true, true, true, true, true, true, true, false, false, false, false, false, false, false, false, false, false, false, false, false, false, false, false, false, false, false] rfl rfl (any_of HT_.out (by kernel_rfl)) (fun _ _ _ h => h) (Or.inr ⟨by rfl, rfl⟩) ?_ ?_
    rotate_left
    · simp only [Act.put, List.setIfInBounds_toArray, List.set_cons_zero, List.set_cons_succ, i64_w, i32_w]
      rfl
    refine pure_ (i := 31) (N := some 42) (v := undef) (a' := ?_) #[true, true, true, true, true, true, true, true, true, true, true, true, true, true, true, true, true, true, true, true, true, true, true, true, true, true, true, true, true, true, true, true, false, false, false, false, false, false, false, false, false, false, false, false, false, false, false, false, false, false] rfl rfl (any_of HT_.out (by kernel_rfl)) (fun _ _ _ h => h) (Or.inr ⟨by rfl, rfl⟩) ?_ ?_
    rotate_left
    · simp only [Act.put, List.setIfInBounds_toArray, List.set_cons_zero, List.set_cons_succ, i64_w, i32_w]
      rfl
    refine pure_ (i := 32) (N := some 43) (v := undef) (a' := ?_) #[true, true, true, true, true, true, true, true, true, true, true, true, true, true, true, true, true, true, true, true, true, true, true, true, true, true, true, true, true, true, true, true, true, false, false, false, false, false, false, false, false, false, false, false, false, false, false, false, false, false] rfl rfl (any_of HT_.out (by kernel_rfl)) (fun _ _ _ h => h) (Or.inr ⟨by rfl, rfl⟩) ?_ ?_
    rotate_left
    · simp only [Act.put, List.setIfInBounds_toArray, List.set_cons_zero, List.set_cons_succ, i64_w, i32_w]
      rfl
    refine pure_ (i := 33) (N := some 44) (v := undef) (a' := ?_) #[true, true, true, true, true, true, true, true, true, true, true, true, true, true, true, true, true, true, true, true, true, true, true, true, true, true, true, true, true, true, true, true, true, true, false, false, false, false, false, false, false, false, false, false, false, false, false, false, false, false] rfl rfl (any_of HT_.out (by kernel_rfl)) (fun _ _ _ h => h) (Or.inr ⟨by rfl, rfl⟩) ?_ ?_
    rotate_left
    · simp only [Act.put, List.setIfInBounds_toArray, List.set_cons_zero, List.set_cons_succ, i64_w, i32_w]
      rfl
    refine pure_ (i := 34) (N := some 45) (v := undef) (a' := ?_) #[true, true, true, true, true, true, true, true, true, true, true, true, true, true, true, true, true, true, true, true, true, true, true, true, true, true, true, true, true, true, true, true, true, true, true, false, false, false, false, false, false, false, false, false, false, false, false, false, false, false] rfl rfl (any_of HT_.out (by kernel_rfl)) (fun _ _ _ h => h) (Or.inr ⟨by rfl, rfl⟩) ?_ ?_
    rotate_left
    · simp only [Act.put, List.setIfInBounds_toArray, List.set_cons_zero, List.set_cons_succ, i64_w, i32_w]
      rfl
    refine pure_ (i := 35) (N := some 46) (v := undef) (a' := ?_) #[true, true, true, true, true, true, true, true, true, true, true, true, true, true, true, true, true, true, true, true, true, true, true, true, true, true, true, true, true, true, true, true, true, true, true, true, false, false, false, false, false, false, false, false, false, false, false, false, false, false] rfl rfl (any_of HT_.out (by kernel_rfl)) (fun _ _ _ h => h) (Or.inr ⟨by rfl, rfl⟩) ?_ ?_
    rotate_left
    · simp only [Act.put, List.setIfInBounds_toArray, List.set_cons_zero, List.set_cons_succ, i64_w, i32_w]
      rfl
    refine pure_ (i := 36) (N := some 47) (v := ?_) (a' := ?_) #[true, true, true, true, true, true, true, true, true, true, true, true, true, true, true, true, true, true, true, true, true, true, true, true, true, true, true, true, true, true, true, true, true, true, true, true, true, false, false, false, false, false, false, false, false, false, false, false, false, false] rfl rfl (any_of HT_.out (by kernel_rfl)) (fun _ _ _ h => h) (Or.inl ⟨by rfl, ?_⟩) ?_ ?_
    rotate_left
    · intro w'
      go_simp
      try with_reducible rfl
    rotate_left
    · simp only [Act.put, List.setIfInBounds_toArray, List.set_cons_zero, List.set_cons_succ, i64_w, i32_w]
      rfl
    refine pure_ (i := 37) (N := some 48) (v := ?_) (a' := ?_) #[true, true, true, true, true, true, true, true, true, true, true, true, true, true, true, true, true, true, true, true, true, true, true, true, true, true, true, true, true, true, true, true, true, true, true, true, true, true, false, false, false, false, false, false, false, false, false, false, false, false] rfl rfl (any_of HT_.out (by kernel_rfl)) (fun _ _ _ h => h) (Or.inl ⟨by rfl, ?_⟩) ?_ ?_
    rotate_left
    · intro w'
      go_simp
      try with_reducible rfl
    rotate_left
    · simp only [Act.put, List.setIfInBounds_toArray, List.set_cons_zero, List.set_cons_succ, i64_w, i32_w]
      rfl
    refine pure_ (i := 38) (N := some 49) (v := ?_) (a' := ?_) #[true, true, true, true, true, true, true, true, true, true, true, true, true, true, true, true, true, true, true, true, true, true, true, true, true, true, true, true, true, true, true, true, true, true, true, true, true, true, true, false, false, false, false, false, false, false, false, false, false, false] rfl rfl (any_of HT_.out (by kernel_rfl)) (fun _ _ _ h => h) (Or.inl ⟨by rfl, ?_⟩) ?_ ?_
    rotate_left
    · intro w'
      go_simp
      try with_reducible rfl
    rotate_left
    · simp only [Act.put, List.setIfInBounds_toArray, List.set_cons_zero, List.set_cons_succ, i64_w, i32_w]
      rfl
    refine pure_ (i := 39) (N := some 50) (v := ?_) (a' := ?_) #[true, true, true, true, true, true, true, true, true, true, true, true, true, true, true, true, true, true, true, true, true, true, true, true, true, true, true, true, true, true, true, true, true, true, true, true, true, true, true, true, false, false, false, false, false, false, false, false, false, false] rfl rfl (any_of HT_.out (by kernel_rfl)) (fun _ _ _ h => h) (Or.inl ⟨by rfl, ?_⟩) ?_ ?_
    rotate_left
    · intro w'
      go_simp
      try with_reducible rfl
    rotate_left
    · simp only [Act.put, List.setIfInBounds_toArray, List.set_cons_zero, List.set_cons_succ, i64_w, i32_w]
      rfl
    refine pure_ (i := 40) (N := some 51) (v := ?_) (a' := ?_) #[true, true, true, true, true, true, true, true, true, true, true, true, true, true, true, true, true, true, true, true, true, true, true, true, true, true, true, true, true, true, true, true, true, true, true, true, true, true, true, true, true, false, false, false, false, false, false, false, false, false] rfl rfl (any_of HT_.out (by kernel_rfl)) (fun _ _ _ h => h) (Or.inl ⟨by rfl, ?_⟩) ?_ ?_
    rotate_left
    · intro w'
      go_simp
      try with_reducible rfl
    rotate_left
    · simp only [Act.put, List.setIfInBounds_toArray, List.set_cons_zero, List.set_cons_succ, i64_w, i32_w]
      rfl
    refine pure_ (i := 41) (N := some 52) (v := ?_) (a' := ?_) #[true, true, true, true, true, true, true, true, true, true, true, true, true, true, true, true, true, true, true, true, true, true, true, true, true, true, true, true, true, true, true, true, true, true, true, true, true, true, true, true, true, true, false, false, false, false, false, false, false, false] rfl rfl (any_of HT_.out (by kernel_rfl)) (fun _ _ _ h => h) (Or.inl ⟨by rfl, ?_⟩) ?_ ?_
    rotate_left
    · intro w'
      go_simp
      try with_reducible rfl
    rotate_left
    · simp only [Act.put, List.setIfInBounds_toArray, List.set_cons_zero, List.set_cons_succ, i64_w, i32_w]
      rfl
    refine take_ (i := 42) (N := some 53) (v := ?_) (a' := ?_) #[true, true, true, true, true, true, true, true, true, true, true, true, true, true, true, true, true, true, true, true, true, true, true, true, true, true, true, true, true, true, true, true, true, true, true, true, true, true, true, true, true, true, true, false, false, false, false, false, false, false] rfl rfl (take_ofW HT_.out HW_.out (by kernel_rfl)) (fun _ _ _ h => h) (Or.inl ⟨by rfl, ?_⟩) hHeld ?_ ?_
    rotate_left
    · intro w' hS
      have hS := hS.2.2.2.2.2.2.1
      go_simp
      try with_reducible rfl
    rotate_left
    · simp only [Act.put, List.setIfInBounds_toArray, List.set_cons_zero, List.set_cons_succ, i64_w, i32_w]
      rfl
    refine pure_ (i := 43) (N := some 54) (v := ?_) (a' := ?_) #[true, true, true, true, true, true, true, true, true, true, true, true, true, true, true, true, true, true, true, true, true, true, true, true, true, true, true, true, true, true, true, true, true, true, true, true, true, true, true, true, true, true, true, true, false, false, false, false, false, false] rfl rfl (any_of HT_.out (by kernel_rfl)) (fun _ _ _ h => h) (Or.inl ⟨by rfl, ?_⟩) ?_ ?_
    rotate_left
    · intro w'
      go_simp
      try with_reducible rfl
    rotate_left
    · simp only [Act.put, List.setIfInBounds_toArray, List.set_cons_zero, List.set_cons_succ, i64_w, i32_w]
      rfl
    refine pure_ (i := 44) (N := some 55) (v := ?_) (a' := ?_) #[true, true, true, true, true, true, true, true, true, true, true, true, true, true, true, true, true, true, true, true, true, true, true, true, true, true, true, true, true, true, true, true, true, true, true, true, true, true, true, true, true, true, true, true, true, false, false, false, false, false] rfl rfl (any_of HT_.out (by kernel_rfl)) (fun _ _ _ h => h) (Or.inl ⟨by rfl, ?_⟩) ?_ ?_
    rotate_left
    · intro w'
      go_simp
      try with_reducible rfl
    rotate_left
    · simp only [Act.put, List.setIfInBounds_toArray, List.set_cons_zero, List.set_cons_succ, i64_w, i32_w]
      rfl
    refine pure_ (i := 45) (N := some 56) (v := ?_) (a' := ?_) #[true, true, true, true, true, true, true, true, true, true, true, true, true, true, true, true, true, true, true, true, true, true, true, true, true, true, true, true, true, true, true, true, true, true, true, true, true, true, true, true, true, true, true, true, true, true, false, false, false, false] rfl rfl (any_of HT_.out (by kernel_rfl)) (fun _ _ _ h => h) (Or.inl ⟨by rfl, ?_⟩) ?_ ?_
    rotate_left
    · intro w'
      go_simp
      try with_reducible rfl
    rotate_left
    · simp only [Act.put, List.setIfInBounds_toArray, List.set_cons_zero, List.set_cons_succ, i64_w, i32_w]
      rfl
    refine take_ (i := 46) (N := some 57) (v := ?_) (a' := ?_) #[true, true, true, true, true, true, true, true, true, true, true, true, true, true, true, true, true, true, true, true, true, true, true, true, true, true, true, true, true, true, true, true, true, true, true, true, true, true, true, true, true, true, true, true, true, true, true, false, false, false] rfl rfl (take_ofW HT_.out HW_.out (by kernel_rfl)) (fun _ _ _ h => h) (Or.inl ⟨by rfl, ?_⟩) hHeld ?_ ?_
    rotate_left
    · intro w' hS
      have hS := hS.2.2.2.2.2.2.2
      go_simp
      try with_reducible rfl
    rotate_left
    · simp only [Act.put, List.setIfInBounds_toArray, List.set_cons_zero, List.set_cons_succ, i64_w, i32_w]
      rfl
    refine pure_ (i := 47) (N := some 58) (v := ?_) (a' := ?_) #[true, true, true, true, true, true, true, true, true, true, true, true, true, true, true, true, true, true, true, true, true, true, true, true, true, true, true, true, true, true, true, true, true, true, true, true, true, true, true, true, true, true, true, true, true, true, true, true, false, false] rfl rfl (any_of HT_.out (by kernel_rfl)) (fun _ _ _ h => h) (Or.inl ⟨by rfl, ?_⟩) ?_ ?_
    rotate_left
    · intro w'
      go_simp
      try with_reducible rfl
    rotate_left
    · simp only [Act.put, List.setIfInBounds_toArray, List.set_cons_zero, List.set_cons_succ, i64_w, i32_w]
      rfl
    refine pure_ (i := 48) (N := some 59) (v := ?_) (a' := ?_) #[true, true, true, true, true, true, true, true, true, true, true, true, true, true, true, true, true, true, true, true, true, true, true, true, true, true, true, true, true, true, true, true, true, true, true, true, true, true, true, true, true, true, true, true, true, true, true, true, true, false] rfl rfl (any_of HT_.out (by kernel_rfl)) (fun _ _ _ h => h) (Or.inl ⟨by rfl, ?_⟩) ?_ ?_
    rotate_left
    · intro w'
      go_simp
      try with_reducible rfl
    rotate_left
    · simp only [Act.put, List.setIfInBounds_toArray, List.set_cons_zero, List.set_cons_succ, i64_w, i32_w]
      rfl
    refine pure_ (i := 49) (N := some 4) (v := ?_) (a' := ?_) #[true, true, true, true, true, true, true, true, true, true, true, true, true, true, true, true, true, true, true, true, true, true, true, true, true, true, true, true, true, true, true, true, true, true, true, true, true, true, true, true, true, true, true, true, true, true, true, true, true, true] rfl rfl (any_of HT_.out (by kernel_rfl)) (fun _ _ _ h => h) (Or.inl ⟨by rfl, ?_⟩) ?_ ?_
    rotate_left
    · intro w'
      go_simp
      try with_reducible rfl
    rotate_left
    · simp only [Act.put, List.setIfInBounds_toArray, List.set_cons_zero, List.set_cons_succ, i64_w, i32_w]
      rfl
    refine done_ (done_of HT_.out (by kernel_rfl)) ?_
    go_wp2_with fail
    go_ret
    exact ⟨rfl, ((Below.refl _ _).drew).trans HB.out⟩
  · have q0 : (fu == 0) = false := beq_eq_false_iff_ne.2 hz
    clear hz
    go_enter Try.func25, Try.ntmps25
    go_wp2_with fail
    refine HN1.out.mono ?_
    rintro e w1 ⟨rfl, rfl⟩
    go_wp2_with fail
    refine HN2.out.mono ?_
    rintro e w1 ⟨rfl, rfl⟩
    go_upto_region 3 with fail
    refine start_ (n := 50) (S := fun w' => w'.cell? ⟨f1, 0, none⟩ = some (.slice (some ⟨g1, 0, none⟩) nn cap) ∧ w'.cell? ⟨f2, 0, none⟩ = some (.slice (some ⟨g2, 0, none⟩) nn cc) ∧ w'.cell? ⟨f1, 1, none⟩ = some (.int .i64 fu) ∧ w'.cell? ⟨f2, 1, none⟩ = some (.int .i64 fu) ∧ w'.cell? ⟨f1, 2, none⟩ = some (.int .i64 ke) ∧ w'.cell? ⟨f2, 2, none⟩ = some (.int .i64 ke) ∧ w'.cell? ⟨f1, 3, none⟩ = some (.bool dn) ∧ w'.cell? ⟨f2, 3, none⟩ = some (.bool dn)) (ds := []) #[false, false, false, false, false, false, false, false, false, false, false, false, false, false, false, false, false, false, false, false, false, false, false, false, false, false, false, false, false, false, false, false, false, false, false, false, false, false, false, false, false, false, false, false, false, false, false, false, false, false] (by kernel_rfl) rfl rfl ⟨a0, b0, a1, b1, a2, b2, a3, b3⟩ (fun hHeld => ?_)
    refine with_tabW same3_tab same3_bits (fun HT_ HW_ => ?_)
    refine pure_ (i := 0) (N := some 11) (v := ?_) (a' := ?_) #[true, false, false, false, false, false, false, false, false, false, false, false, false, false, false, false, false, false, false, false, false, false, false, false, false, false, false, false, false, false, false, false, false, false, false, false, false, false, false, false, false, false, false, false, false, false, false, false, false, false] rfl rfl (any_of HT_.out (by kernel_rfl)) (fun _ _ _ h => h) (Or.inl ⟨by rfl, ?_⟩) ?_ ?_
    rotate_left
    · intro w'
      go_simp
      try with_reducible rfl
    rotate_left
    · simp only [Act.put, List.setIfInBounds_toArray, List.set_cons_zero, List.set_cons_succ, i64_w, i32_w]
      rfl
    refine pure_ (i := 1) (N := some 12) (v := ?_) (a' := ?_) #[true, true, false, false, false, false, false, false, false, false, false, false, false, false, false, false, false, false, false, false, false, false, false, false, false, false, false, false, false, false, false, false, false, false, false, false, false, false, false, false, false, false, false, false, false, false, false, false, false, false] rfl rfl (any_of HT_.out (by kernel_rfl)) (fun _ _ _ h => h) (Or.inl ⟨by rfl, ?_⟩) ?_ ?_
    rotate_left
    · intro w'
      go_simp
      try with_reducible rfl
    rotate_left
    · simp only [Act.put, List.setIfInBounds_toArray, List.set_cons_zero, List.set_cons_succ, i64_w, i32_w]
      rfl
    refine pure_ (i := 2) (N := some 13) (v := ?_) (a' := ?_) #[true, true, true, false, false, false, false, false, false, false, false, false, false, false, false, false, false, false, false, false, false, false, false, false, false, false, false, false, false, false, false, false, false, false, false, false, false, false, false, false, false, false, false, false, false, false, false, false, false, false] rfl rfl (any_of HT_.out (by kernel_rfl)) (fun _ _ _ h => h) (Or.inl ⟨by rfl, ?_⟩) ?_ ?_
    rotate_left
    · intro w'
      go_simp
      try with_reducible rfl
    rotate_left
    · simp only [Act.put, List.setIfInBounds_toArray, List.set_cons_zero, List.set_cons_succ, i64_w, i32_w]
      rfl
    refine take_ (i := 3) (N := some 14) (v := ?_) (a' := ?_) #[true, true, true, true, false, false, false, false, false, false, false, false, false, false, false, false, false, false, false, false, false, false, false, false, false, false, false, false, false, false, false, false, false, false, false, false, false, false, false, false, false, false, false, false, false, false, false, false, false, false] rfl rfl (take_ofW HT_.out HW_.out (by kernel_rfl)) (fun _ _ _ h => h) (Or.inl ⟨by rfl, ?_⟩) hHeld ?_ ?_
    rotate_left
    · intro w' hS
      have hS := hS.1
      go_simp
      try with_reducible rfl
    rotate_left
    · simp only [Act.put, List.setIfInBounds_toArray, List.set_cons_zero, List.set_cons_succ, i64_w, i32_w]
      rfl
    refine pure_ (i := 4) (N := some 15) (v := ?_) (a' := ?_) #[true, true, true, true, true, false, false, false, false, false, false, false, false, false, false, false, false, false, false, false, false, false, false, false, false, false, false, false, false, false, false, false, false, false, false, false, false, false, false, false, false, false, false, false, false, false, false, false, false, false] rfl rfl (any_of HT_.out (by kernel_rfl)) (fun _ _ _ h => h) (Or.inl ⟨by rfl, ?_⟩) ?_ ?_
    rotate_left
    · intro w'
      go_simp
      try with_reducible rfl
    rotate_left
    · simp only [Act.put, List.setIfInBounds_toArray, List.set_cons_zero, List.set_cons_succ, i64_w, i32_w]
      rfl
    refine pure_ (i := 5) (N := some 16) (v := ?_) (a' := ?_) #[true, true, true, true, true, true, false, false, false, false, false, false, false, false, false, false, false, false, false, false, false, false, false, false, false, false, false, false, false, false, false, false, false, false, false, false, false, false, false, false, false, false, false, false, false, false, false, false, false, false] rfl rfl (any_of HT_.out (by kernel_rfl)) (fun _ _ _ h => h) (Or.inl ⟨by rfl, ?_⟩) ?_ ?_
    rotate_left
    · intro w'
      go_simp
      try with_reducible rfl
    rotate_left
    · simp only [Act.put, List.setIfInBounds_toArray, List.set_cons_zero, List.set_cons_succ, i64_w, i32_w]
      rfl
    refine pure_ (i := 6) (N := some 17) (v := ?_) (a' := ?_) #[true, true, true, true, true, true, true, false, false, false, false, false, false, false, false, false, false, false, false, false, false, false, false, false, false, false, false, false, false, false, false, false, false, false, false, false, false, false, false, false, false, false, false, false, false, false, false, false, false, false] rfl rfl (any_of HT_.out (by kernel_rfl)) (fun _ _ _ h => h) (Or.inl ⟨by rfl, ?_⟩) ?_ ?_
    rotate_left
    · intro w'
      go_simp
      try with_reducible rfl
    rotate_left
    · simp only [Act.put, List.setIfInBounds_toArray, List.set_cons_zero, List.set_cons_succ, i64_w, i32_w]
      rfl
    refine take_ (i := 7) (N := some 18) (v := ?_) (a' := ?_) #[true, true, true, true, true, true, true, true, false, false, false, false, false, false, false, false, false, false, false, false, false, false, false, false, false, false, false, false, false, false, false, false, false, false, false, false, false, false, false, false, false, false, false, false, false, false, false, false, false, false] rfl rfl (take_ofW HT_.out HW_.out (by kernel_rfl)) (fun _ _ _ h => h) (Or.inl ⟨by rfl, ?_⟩) hHeld ?_ ?_
    rotate_left
    · intro w' hS
      have hS := hS.2.1
      go_simp
      try with_reducible rfl
    rotate_left
    · simp only [Act.put, List.setIfInBounds_toArray, List.set_cons_zero, List.set_cons_succ, i64_w, i32_w]
      rfl
    refine one_ (i := 8) (N := some 19) #[true, true, true, true, true, true, true, true, true, false, false, false, false, false, false, false, false, false, false, false, false, false, false, false, false, false, false, false, false, false, false, false, false, false, false, false, false, false, false, false, false, false, false, false, false, false, false, false, false, false] rfl rfl (one_of HT_.out (by kernel_rfl)) (by decide) (fun K hK => ?_)
    go_simp
    refine HE.out.mono ?_
    rintro e w2 ⟨rfl, hb⟩
    have HB := Lib.hid hb
    have k0 : ∀ i, w2.cell? ⟨f1, i, none⟩ = w.cell? ⟨f1, i, none⟩ := fun i => hb.cell (p := ⟨f1, i, none⟩) F1.out
    have k1 : ∀ i, w2.cell? ⟨f2, i, none⟩ = w.cell? ⟨f2, i, none⟩ := fun i => hb.cell (p := ⟨f2, i, none⟩) F2.out
    refine hK.out _ _ ⟨(k0 0).trans a0, (k1 0).trans b0, (k0 1).trans a1, (k1 1).trans b1, (k0 2).trans a2, (k1 2).trans b2, (k0 3).trans a3, (k1 3).trans b3⟩ (fun hHeld => ?_)
    clear hK K
    clear k0 k1 hb
    refine pure_ (i := 9) (N := some 20) (v := ?_) (a' := ?_) #[true, true, true, true, true, true, true, true, true, true, false, false, false, false, false, false, false, false, false, false, false, false, false, false, false, false, false, false, false, false, false, false, false, false, false, false, false, false, false, false, false, false, false, false, false, false, false, false, false, false] rfl rfl (any_of HT_.out (by kernel_rfl)) (fun _ _ _ h => h) (Or.inl ⟨by rfl, ?_⟩) ?_ ?_
    rotate_left
    · intro w'
      go_simp
      try with_reducible rfl
    rotate_left
    · simp only [Act.put, List.setIfInBounds_toArray, List.set_cons_zero, List.set_cons_succ, i64_w, i32_w]
      rfl
    refine pure_ (i := 10) (N := some 21) (v := ?_) (a' := ?_) #[true, true, true, true, true, true, true, true, true, true, true, false, false, false, false, false, false, false, false, false, false, false, false, false, false, false, false, false, false, false, false, false, false, false, false, false, false, false, false, false, false, false, false, false, false, false, false, false, false, false] rfl rfl (any_of HT_.out (by kernel_rfl)) (fun _ _ _ h => h) (Or.inl ⟨by rfl, ?_⟩) ?_ ?_
    rotate_left
    · intro w'
      go_simp
      try with_reducible rfl
    rotate_left
    · simp only [Act.put, List.setIfInBounds_toArray, List.set_cons_zero, List.set_cons_succ, i64_w, i32_w]
      rfl
    refine pure_ (i := 11) (N := some 22) (v := ?_) (a' := ?_) #[true, true, true, true, true, true, true, true, true, true, true, true, false, false, false, false, false, false, false, false, false, false, false, false, false, false, false, false, false, false, false, false, false, false, false, false, false, false, false, false, false, false, false, false, false, false, false, false, false, false] rfl rfl (any_of HT_.out (by kernel_rfl)) (fun _ _ _ h => h) (Or.inl ⟨by rfl, ?_⟩) ?_ ?_
    rotate_left
    · intro w'
      go_simp
      try with_reducible rfl
    rotate_left
    · simp only [Act.put, List.setIfInBounds_toArray, List.set_cons_zero, List.set_cons_succ, i64_w, i32_w]
      rfl
    refine pure_ (i := 12) (N := some 23) (v := ?_) (a' := ?_) #[true, true, true, true, true, true, true, true, true, true, true, true, true, false, false, false, false, false, false, false, false, false, false, false, false, false, false, false, false, false, false, false, false, false, false, false, false, false, false, false, false, false, false, false, false, false, false, false, false, false] rfl rfl (any_of HT_.out (by kernel_rfl)) (fun _ _ _ h => h) (Or.inl ⟨by rfl, ?_⟩) ?_ ?_
    rotate_left
    · intro w'
      go_simp
      try with_reducible rfl
    rotate_left
    · simp only [Act.put, List.setIfInBounds_toArray, List.set_cons_zero, List.set_cons_succ, i64_w, i32_w]
      rfl
    refine take_ (i := 13) (N := some 24) (v := ?_) (a' := ?_) #[true, true, true, true, true, true, true, true, true, true, true, true, true, true, false, false, false, false, false, false, false, false, false, false, false, false, false, false, false, false, false, false, false, false, false, false, false, false, false, false, false, false, false, false, false, false, false, false, false, false] rfl rfl (take_ofW HT_.out HW_.out (by kernel_rfl)) (fun _ _ _ h => h) (Or.inl ⟨by rfl, ?_⟩) hHeld ?_ ?_
    rotate_left
    · intro w' hS
      have hS := hS.2.2.1
      go_simp
      try with_reducible rfl
    rotate_left
    · simp only [Act.put, List.setIfInBounds_toArray, List.set_cons_zero, List.set_cons_succ, i64_w, i32_w]
      rfl
    refine pure_ (i := 14) (N := some 25) (v := ?_) (a' := ?_) #[true, true, true, true, true, true, true, true, true, true, true, true, true, true, true, false, false, false, false, false, false, false, false, false, false, false, false, false, false, false, false, false, false, false, false, false, false, false, false, false, false, false, false, false, false, false, false, false, false, false] rfl rfl (any_of HT_.out (by kernel_rfl)) (fun _ _ _ h => h) (Or.inl ⟨by rfl, ?_⟩) ?_ ?_
    rotate_left
    · intro w'
      go_simp
      try with_reducible rfl
    rotate_left
    · simp only [Act.put, List.setIfInBounds_toArray, List.set_cons_zero, List.set_cons_succ, i64_w, i32_w]
      rfl
    refine pure_ (i := 15) (N := some 26) (v := ?_) (a' := ?_) #[true, true, true, true, true, true, true, true, true, true, true, true, true, true, true, true, false, false, false, false, false, false, false, false, false, false, false, false, false, false, false, false, false, false, false, false, false, false, false, false, false, false, false, false, false, false, false, false, false, false] rfl rfl (any_of HT_.out (by kernel_rfl)) (fun _ _ _ h => h) (Or.inl ⟨by rfl, ?_⟩) ?_ ?_
    rotate_left
    · intro w'
      go_simp
      try with_reducible rfl
    rotate_left
    · simp only [Act.put, List.setIfInBounds_toArray, List.set_cons_zero, List.set_cons_succ, i64_w, i32_w]
      rfl
    refine pure_ (i := 16) (N := some 27) (v := ?_) (a' := ?_) #[true, true, true, true, true, true, true, true, true, true, true, true, true, true, true, true, true, false, false, false, false, false, false, false, false, false, false, false, false, false, false, false, false, false, false, false, false, false, false, false, false, false, false, false, false, false, false, false, false, false] rfl rfl (any_of HT_.out (by kernel_rfl)) (fun _ _ _ h => h) (Or.inl ⟨by rfl, ?_⟩) ?_ ?_
    rotate_left
    · intro w'
      go_simp
      try with_reducible rfl
    rotate_left
    · simp only [Act.put, List.setIfInBounds_toArray, List.set_cons_zero, List.set_cons_succ, i64_w, i32_w]
      rfl
    refine take_ (i := 17) (N := some 28) (v := ?_) (a' := ?_) #[true, true, true, true, true, true, true, true, true, true, true, true, true, true, true, true, true, true, false, false, false, false, false, false, false, false, false, false, false, false, false, false, false, false, false, false, false, false, false, false, false, false, false, false, false, false, false, false, false, false] rfl rfl (take_ofW HT_.out HW_.out (by kernel_rfl)) (fun _ _ _ h => h) (Or.inl ⟨by rfl, ?_⟩) hHeld ?_ ?_
    rotate_left
    · intro w' hS
      have hS := hS.2.2.2.1
      go_simp
      try with_reducible rfl
    rotate_left
    · simp only [Act.put, List.setIfInBounds_toArray, List.set_cons_zero, List.set_cons_succ, i64_w, i32_w]
      rfl
    refine pure_ (i := 18) (N := some 29) (v := ?_) (a' := ?_) #[true, true, true, true, true, true, true, true, true, true, true, true, true, true, true, true, true, true, true, false, false, false, false, false, false, false, false, false, false, false, false, false, false, false, false, false, false, false, false, false, false, false, false, false, false, false, false, false, false, false] rfl rfl (any_of HT_.out (by kernel_rfl)) (fun _ _ _ h => h) (Or.inl ⟨by rfl, ?_⟩) ?_ ?_
    rotate_left
    · intro w'
      go_simp
      try with_reducible rfl
    rotate_left
    · simp only [Act.put, List.setIfInBounds_toArray, List.set_cons_zero, List.set_cons_succ, i64_w, i32_w]
      rfl
    refine pure_ (i := 19) (N := some 30) (v := ?_) (a' := ?_) #[true, true, true, true, true, true, true, true, true, true, true, true, true, true, true, true, true, true, true, true, false, false, false, false, false, false, false, false, false, false, false, false, false, false, false, false, false, false, false, false, false, false, false, false, false, false, false, false, false, false] rfl rfl (any_of HT_.out (by kernel_rfl)) (fun _ _ _ h => h) (Or.inl ⟨by rfl, ?_⟩) ?_ ?_
    rotate_left
    · intro w'
      go_simp
      try with_reducible rfl
    rotate_left
    · simp only [Act.put, List.setIfInBounds_toArray, List.set_cons_zero, List.set_cons_succ, i64_w, i32_w]
      rfl
    refine pure_ (i := 20) (N := some 31) (v := ?_) (a' := ?_) #[true, true, true, true, true, true, true, true, true, true, true, true, true, true, true, true, true, true, true, true, true, false, false, false, false, false, false, false, false, false, false, false, false, false, false, false, false, false, false, false, false, false, false, false, false, false, false, false, false, false] rfl rfl (any_of HT_.out (by kernel_rfl)) (fun _ _ _ h => h) (Or.inl ⟨by rfl, ?_⟩) ?_ ?_
    rotate_left
    · intro w'
      go_simp
      try with_reducible rfl
    rotate_left
    · simp only [Act.put, List.setIfInBounds_toArray, List.set_cons_zero, List.set_cons_succ, i64_w, i32_w]
      rfl
    refine pure_ (i := 21) (N := some 32) (v := ?_) (a' := ?_) #[true, true, true, true, true, true, true, true, true, true, true, true, true, true, true, true, true, true, true, true, true, true, false, false, false, false, false, false, false, false, false, false, false, false, false, false, false, false, false, false, false, false, false, false, false, false, false, false, false, false] rfl rfl (any_of HT_.out (by kernel_rfl)) (fun _ _ _ h => h) (Or.inl ⟨by rfl, ?_⟩) ?_ ?_
    rotate_left
    · intro w'
      go_simp
      try with_reducible rfl
    rotate_left
    · simp only [Act.put, List.setIfInBounds_toArray, List.set_cons_zero, List.set_cons_succ, i64_w, i32_w]
      rfl
    refine pure_ (i := 22) (N := some 33) (v := ?_) (a' := ?_) #[true, true, true, true, true, true, true, true, true, true, true, true, true, true, true, true, true, true, true, true, true, true, true, false, false, false, false, false, false, false, false, false, false, false, false, false, false, false, false, false, false, false, false, false, false, false, false, false, false, false] rfl rfl (any_of HT_.out (by kernel_rfl)) (fun _ _ _ h => h) (Or.inl ⟨by rfl, ?_⟩) ?_ ?_
    rotate_left
    · intro w'
      go_simp
      try with_reducible rfl
    rotate_left
    · simp only [Act.put, List.setIfInBounds_toArray, List.set_cons_zero, List.set_cons_succ, i64_w, i32_w]
      rfl
    refine pure_ (i := 23) (N := some 34) (v := ?_) (a' := ?_) #[true, true, true, true, true, true, true, true, true, true, true, true, true, true, true, true, true, true, true, true, true, true, true, true, false, false, false, false, false, false, false, false, false, false, false, false, false, false, false, false, false, false, false, false, false, false, false, false, false, false] rfl rfl (any_of HT_.out (by kernel_rfl)) (fun _ _ _ h => h) (Or.inl ⟨by rfl, ?_⟩) ?_ ?_
    rotate_left
    · intro w'
      go_simp
      try with_reducible rfl
    rotate_left
    · simp only [Act.put, List.setIfInBounds_toArray, List.set_cons_zero, List.set_cons_succ, i64_w, i32_w]
      rfl
    refine take_ (i := 24) (N := some 35) (v := ?_) (a' := ?_) #[true, true, true, true, true, true, true, true, true, true, true, true, true, true, true, true, true, true, true, true, true, true, true, true, true, false, false, false, false, false, false, false, false, false, false, false, false, false, false, false, false, false, false, false, false, false, false, false, false, false] rfl rfl (take_ofW HT_.out HW_.out (by kernel_rfl)) (fun _ _ _ h => h) (Or.inl ⟨by rfl, ?_⟩) hHeld ?_ ?_
    rotate_left
    · intro w' hS
      have hS := hS.2.2.1
      go_simp
      try with_reducible rfl
    rotate_left
    · simp only [Act.put, List.setIfInBounds_toArray, List.set_cons_zero, List.set_cons_succ, i64_w, i32_w]
      rfl
    refine pure_ (i := 25) (N := some 36) (v := ?_) (a' := ?_) #[true, true, true, true, true, true, true, true, true, true, true, true, true, true, true, true, true, true, true, true, true, true, true, true, true, true, false, false, false, false, false, false, false, false, false, false, false, false, false, false, false, false, false, false, false, false, false, false, false, false] rfl rfl (any_of HT_.out (by kernel_rfl)) (fun _ _ _ h => h) (Or.inl ⟨by rfl, ?_⟩) ?_ ?_
    rotate_left
    · intro w'
      go_simp
      try with_reducible rfl
    rotate_left
    · simp only [Act.put, List.setIfInBounds_toArray, List.set_cons_zero, List.set_cons_succ, i64_w, i32_w]
      rfl
    refine pure_ (i := 26) (N := some 37) (v := ?_) (a' := ?_) #[true, true, true, true, true, true, true, true, true, true, true, true, true, true, true, true, true, true, true, true, true, true, true, true, true, true, true, false, false, false, false, false, false, false, false, false, false, false, false, false, false, false, false, false, false, false, false, false, false, false] rfl rfl (any_of HT_.out (by kernel_rfl)) (fun _ _ _ h => h) (Or.inl ⟨by rfl, ?_⟩) ?_ ?_
    rotate_left
    · intro w'
      go_simp
      try with_reducible rfl
    rotate_left
    · simp only [Act.put, List.setIfInBounds_toArray, List.set_cons_zero, List.set_cons_succ, i64_w, i32_w]
      rfl
    refine pure_ (i := 27) (N := some 38) (v := ?_) (a' := ?_) #[true, true, true, true, true, true, true, true, true, true, true, true, true, true, true, true, true, true, true, true, true, true, true, true, true, true, true, true, false, false, false, false, false, false, false, false, false, false, false, false, false, false, false, false, false, false, false, false, false, false] rfl rfl (any_of HT_.out (by kernel_rfl)) (fun _ _ _ h => h) (Or.inl ⟨by rfl, ?_⟩) ?_ ?_
    rotate_left
    · intro w'
      go_simp
      try with_reducible rfl
    rotate_left
    · simp only [Act.put, List.setIfInBounds_toArray, List.set_cons_zero, List.set_cons_succ, i64_w, i32_w]
      rfl
    refine pure_ (i := 28) (N := some 39) (v := ?_) (a' := ?_) #[true, true, true, true, true, true, true, true, true, true, true, true, true, true, true, true, true, true, true, true, true, true, true, true, true, true, true, true, true, false, false, false, false, false, false, false, false, false, false, false, false, false, false, false, false, false, false, false, false, false] rfl rfl (any_of HT_.out (by kernel_rfl)) (fun _ _ _ h => h) (Or.inl ⟨by rfl, ?_⟩) ?_ ?_
    rotate_left
    · intro w'
      go_simp
      try with_reducible rfl
    rotate_left
    · simp only [Act.put, List.setIfInBounds_toArray, List.set_cons_zero, List.set_cons_succ, i64_w, i32_w]
      rfl
    refine pure_ (i := 29) (N := some 40) (v := ?_) (a' := ?_) #[true, true, true, true, true, true, true, true, true, true, true, true, true, true, true, true, true, true, true, true, true, true, true, true, true, true, true, true, true, true, false, false, false, false, false, false, false, false, false, false, false, false, false, false, false, false, false, false, false, false] rfl rfl (any_of HT_.out (by kernel_rfl)) (fun _ _ _ h => h) (Or.inl ⟨by rfl, ?_⟩) ?_ ?_
    rotate_left
    · intro w'
      go_simp
      try with_reducible rfl
    rotate_left
    · simp only [Act.put, List.setIfInBounds_toArray, List.set_cons_zero, List.set_cons_succ, i64_w, i32_w]
      rfl
    refine take_ (i := 30) (N := some 41) (v := ?_) (a' := ?_) #[true, true, true, true, true, true, true, true, true, true, true, true, true, true, true, true, true, true, true, true, true, true, true, true, true, true, true, true, true, true, true, false, false, false, false, false, false, false, false, false, false, false, false, false, false, false, false, false, false, false] rfl rfl (take_ofW HT_.out HW_.out (by kernel_rfl)) (fun _ _ _ h => h) (Or.inl ⟨by rfl, ?_⟩) hHeld ?_ ?_
    rotate_left
    · intro w' hS
      have hS := hS.2.2.2.2.1
      go_simp
      try with_reducible rfl
    rotate_left
    · simp only [Act.put, List.setIfInBounds_toArray, List.set_cons_zero, List.set_cons_succ, i64_w, i32_w]
      rfl
    refine pure_ (i := 31) (N := some 42) (v := ?_) (a' := ?_) #[true, true, true, true, true, true, true, true, true, true, true, true, true, true, true, true, true, true, true, true, true, true, true, true, true, true, true, true, true, true, true, true, false, false, false, false, false, false, false, false, false, false, false, false, false, false, false, false, false, false] rfl rfl (any_of HT_.out (by kernel_rfl)) (fun _ _ _ h => h) (Or.inl ⟨by rfl, ?_⟩) ?_ ?_
    rotate_left
    · intro w'
      go_simp
      try with_reducible rfl
    rotate_left
    · simp only [Act.put, List.setIfInBounds_toArray, List.set_cons_zero, List.set_cons_succ, i64_w, i32_w]
      rfl
    refine pure_ (i := 32) (N := some 43) (v := ?_) (a' := ?_) #[true, true, true, true, true, true, true, true, true, true, true, true, true, true, true, true, true, true, true, true, true, true, true, true, true, true, true, true, true, true, true, true, true, false, false, false, false, false, false, false, false, false, false, false, false, false, false, false, false, false] rfl rfl (any_of HT_.out (by kernel_rfl)) (fun _ _ _ h => h) (Or.inl ⟨by rfl, ?_⟩) ?_ ?_
    rotate_left
    · intro w'
      go_simp
      try with_reducible rfl
    rotate_left
    · simp only [Act.put, List.setIfInBounds_toArray, List.set_cons_zero, List.set_cons_succ, i64_w, i32_w]
      rfl
    refine pure_ (i := 33) (N := some 44) (v := ?_) (a' := ?_) #[true, true, true, true, true, true, true, true, true, true, true, true, true, true, true, true, true, true, true, true, true, true, true, true, true, true, true, true, true, true, true, true, true, true, false, false, false, false, false, false, false, false, false, false, false, false, false, false, false, false] rfl rfl (any_of HT_.out (by kernel_rfl)) (fun _ _ _ h => h) (Or.inl ⟨by rfl, ?_⟩) ?_ ?_
    rotate_left
    · intro w'
      go_simp
      try with_reducible rfl
    rotate_left
    · simp only [Act.put, List.setIfInBounds_toArray, List.set_cons_zero, List.set_cons_succ, i64_w, i32_w]
      rfl
    refine take_ (i := 34) (N := some 45) (v := ?_) (a' := ?_) #[true, true, true, true, true, true, true, true, true, true, true, true, true, true, true, true, true, true, true, true, true, true, true, true, true, true, true, true, true, true, true, true, true, true, true, false, false, false, false, false, false, false, false, false, false, false, false, false, false, false] rfl rfl (take_ofW HT_.out HW_.out (by kernel_rfl)) (fun _ _ _ h => h) (Or.inl ⟨by rfl, ?_⟩) hHeld ?_ ?_
    rotate_left
    · intro w' hS
      have hS := hS.2.2.2.2.2.1
      go_simp
      try with_reducible rfl
    rotate_left
    · simp only [Act.put, List.setIfInBounds_toArray, List.set_cons_zero, List.set_cons_succ, i64_w, i32_w]
      rfl
    refine pure_ (i := 35) (N := some 46) (v := ?_) (a' := ?_) #[true, true, true, true, true, true, true, true, true, true, true, true, true, true, true, true, true, true, true, true, true, true, true, true, true, true, true, true, true, true, true, true, true, true, true, true, false, false, false, false, false, false, false, false, false, false, false, false, false, false] rfl rfl (any_of HT_.out (by kernel_rfl)) (fun _ _ _ h => h) (Or.inl ⟨by rfl, ?_⟩) ?_ ?_
    rotate_left
    · intro w'
      go_simp
      try with_reducible rfl
    rotate_left
    · simp only [Act.put, List.setIfInBounds_toArray, List.set_cons_zero, List.set_cons_succ, i64_w, i32_w]
      rfl
    refine pure_ (i := 36) (N := some 47) (v := ?_) (a' := ?_) #[true, true, true, true, true, true, true, true, true, true, true, true, true, true, true, true, true, true, true, true, true, true, true, true, true, true, true, true, true, true, true, true, true, true, true, true, true, false, false, false, false, false, false, false, false, false, false, false, false, false] rfl rfl (any_of HT_.out (by kernel_rfl)) (fun _ _ _ h => h) (Or.inl ⟨by rfl, ?_⟩) ?_ ?_
    rotate_left
    · intro w'
      go_simp
      try with_reducible rfl
    rotate_left
    · simp only [Act.put, List.setIfInBounds_toArray, List.set_cons_zero, List.set_cons_succ, i64_w, i32_w]
      rfl
    refine pure_ (i := 37) (N := some 48) (v := ?_) (a' := ?_) #[true, true, true, true, true, true, true, true, true, true, true, true, true, true, true, true, true, true, true, true, true, true, true, true, true, true, true, true, true, true, true, true, true, true, true, true, true, true, false, false, false, false, false, false, false, false, false, false, false, false] rfl rfl (any_of HT_.out (by kernel_rfl)) (fun _ _ _ h => h) (Or.inl ⟨by rfl, ?_⟩) ?_ ?_
    rotate_left
    · intro w'
      go_simp
      try with_reducible rfl
    rotate_left
    · simp only [Act.put, List.setIfInBounds_toArray, List.set_cons_zero, List.set_cons_succ, i64_w, i32_w]
      rfl
    refine pure_ (i := 38) (N := some 49) (v := ?_) (a' := ?_) #[true, true, true, true, true, true, true, true, true, true, true, true, true, true, true, true, true, true, true, true, true, true, true, true, true, true, true, true, true, true, true, true, true, true, true, true, true, true, true, false, false, false, false, false, false, false, false, false, false, false] rfl rfl (any_of HT_.out (by kernel_rfl)) (fun _ _ _ h => h) (Or.inl ⟨by rfl, ?_⟩) ?_ ?_
    rotate_left
    · intro w'
      go_simp
      try with_reducible rfl
    rotate_left
    · simp only [Act.put, List.setIfInBounds_toArray, List.set_cons_zero, List.set_cons_succ, i64_w, i32_w]
      rfl
    refine pure_ (i := 39) (N := some 50) (v := ?_) (a' := ?_) #[true, true, true, true, true, true, true, true, true, true, true, true, true, true, true, true, true, true, true, true, true, true, true, true, true, true, true, true, true, true, true, true, true, true, true, true, true, true, true, true, false, false, false, false, false, false, false, false, false, false] rfl rfl (any_of HT_.out (by kernel_rfl)) (fun _ _ _ h => h) (Or.inl ⟨by rfl, ?_⟩) ?_ ?_
    rotate_left
    · intro w'
      go_simp
      try with_reducible rfl
    rotate_left
    · simp only [Act.put, List.setIfInBounds_toArray, List.set_cons_zero, List.set_cons_succ, i64_w, i32_w]
      rfl
    refine pure_ (i := 40) (N := some 51) (v := ?_) (a' := ?_) #[true, true, true, true, true, true, true, true, true, true, true, true, true, true, true, true, true, true, true, true, true, true, true, true, true, true, true, true, true, true, true, true, true, true, true, true, true, true, true, true, true, false, false, false, false, false, false, false, false, false] rfl rfl (any_of HT_.out (by kernel_rfl)) (fun _ _ _ h => h) (Or.inl ⟨by rfl, ?_⟩) ?_ ?_
    rotate_left
    · intro w'
      go_simp
      try with_reducible rfl
    rotate_left
    · simp only [Act.put, List.setIfInBounds_toArray, List.set_cons_zero, List.set_cons_succ, i64_w, i32_w]
      rfl
    refine pure_ (i := 41) (N := some 52) (v := ?_) (a' := ?_) #[true, true, true, true, true, true, true, true, true, true, true, true, true, true, true, true, true, true, true, true, true, true, true, true, true, true, true, true, true, true, true, true, true, true, true, true, true, true, true, true, true, true, false, false, false, false, false, false, false, false] rfl rfl (any_of HT_.out (by kernel_rfl)) (fun _ _ _ h => h) (Or.inl ⟨by rfl, ?_⟩) ?_ ?_
    rotate_left
    · intro w'
      go_simp
      try with_reducible rfl
    rotate_left
    · simp only [Act.put, List.setIfInBounds_toArray, List.set_cons_zero, List.set_cons_succ, i64_w, i32_w]
      rfl
    refine take_ (i := 42) (N := some 53) (v := ?_) (a' := ?_) #[true, true, true, true, true, true, true, true, true, true, true, true, true, true, true, true, true, true, true, true, true, true, true, true, true, true, true, true, true, true, true, true, true, true, true, true, true, true, true, true, true, true, true, false, false, false, false, false, false, false] rfl rfl (take_ofW HT_.out HW_.out (by kernel_rfl)) (fun _ _ _ h => h) (Or.inl ⟨by rfl, ?_⟩) hHeld ?_ ?_
    rotate_left
    · intro w' hS
      have hS := hS.2.2.2.2.2.2.1
      go_simp
      try with_reducible rfl
    rotate_left
    · simp only [Act.put, List.setIfInBounds_toArray, List.set_cons_zero, List.set_cons_succ, i64_w, i32_w]
      rfl
    refine pure_ (i := 43) (N := some 54) (v := ?_) (a' := ?_) #[true, true, true, true, true, true, true, true, true, true, true, true, true, true, true, true, true, true, true, true, true, true, true, true, true, true, true, true, true, true, true, true, true, true, true, true, true, true, true, true, true, true, true, true, false, false, false, false, false, false] rfl rfl (any_of HT_.out (by kernel_rfl)) (fun _ _ _ h => h) (Or.inl ⟨by rfl, ?_⟩) ?_ ?_
    rotate_left
    · intro w'
      go_simp
      try with_reducible rfl
    rotate_left
    · simp only [Act.put, List.setIfInBounds_toArray, List.set_cons_zero, List.set_cons_succ, i64_w, i32_w]
      rfl
    refine pure_ (i := 44) (N := some 55) (v := ?_) (a' := ?_) #[true, true, true, true, true, true, true, true, true, true, true, true, true, true, true, true, true, true, true, true, true, true, true, true, true, true, true, true, true, true, true, true, true, true, true, true, true, true, true, true, true, true, true, true, true, false, false, false, false, false] rfl rfl (any_of HT_.out (by kernel_rfl)) (fun _ _ _ h => h) (Or.inl ⟨by rfl, ?_⟩) ?_ ?_
    rotate_left
    · intro w'
      go_simp
      try with_reducible rfl
    rotate_left
    · simp only [Act.put, List.setIfInBounds_toArray, List.set_cons_zero, List.set_cons_succ, i64_w, i32_w]
      rfl
    refine pure_ (i := 45) (N := some 56) (v := ?_) (a' := ?_) #[true, true, true, true, true, true, true, true, true, true, true, true, true, true, true, true, true, true, true, true, true, true, true, true, true, true, true, true, true, true, true, true, true, true, true, true, true, true, true, true, true, true, true, true, true, true, false, false, false, false] rfl rfl (any_of HT_.out (by kernel_rfl)) (fun _ _ _ h => h) (Or.inl ⟨by rfl, ?_⟩) ?_ ?_
    rotate_left
    · intro w'
      go_simp
      try with_reducible rfl
    rotate_left
    · simp only [Act.put, List.setIfInBounds_toArray, List.set_cons_zero, List.set_cons_succ, i64_w, i32_w]
      rfl
    refine take_ (i := 46) (N := some 57) (v := ?_) (a' := ?_) #[true, true, true, true, true, true, true, true, true, true, true, true, true, true, true, true, true, true, true, true, true, true, true, true, true, true, true, true, true, true, true, true, true, true, true, true, true, true, true, true, true, true, true, true, true, true, true, false, false, false] rfl rfl (take_ofW HT_.out HW_.out (by kernel_rfl)) (fun _ _ _ h => h) (Or.inl ⟨by rfl, ?_⟩) hHeld ?_ ?_
    rotate_left
    · intro w' hS
      have hS := hS.2.2.2.2.2.2.2
      go_simp
      try with_reducible rfl
    rotate_left
    · simp only [Act.put, List.setIfInBounds_toArray, List.set_cons_zero, List.set_cons_succ, i64_w, i32_w]
      rfl
    refine pure_ (i := 47) (N := some 58) (v := ?_) (a' := ?_) #[true, true, true, true, true, true, true, true, true, true, true, true, true, true, true, true, true, true, true, true, true, true, true, true, true, true, true, true, true, true, true, true, true, true, true, true, true, true, true, true, true, true, true, true, true, true, true, true, false, false] rfl rfl (any_of HT_.out (by kernel_rfl)) (fun _ _ _ h => h) (Or.inl ⟨by rfl, ?_⟩) ?_ ?_
    rotate_left
    · intro w'
      go_simp
      try with_reducible rfl
    rotate_left
    · simp only [Act.put, List.setIfInBounds_toArray, List.set_cons_zero, List.set_cons_succ, i64_w, i32_w]
      rfl
    refine pure_ (i := 48) (N := some 59) (v := ?_) (a' := ?_) #[true, true, true, true, true, true, true, true, true, true, true, true, true, true, true, true, true, true, true, true, true, true, true, true, true, true, true, true, true, true, true, true, true, true, true, true, true, true, true, true, true, true, true, true, true, true, true, true, true, false] rfl rfl (any_of HT_.out (by kernel_rfl)) (fun _ _ _ h => h) (Or.inl ⟨by rfl, ?_⟩) ?_ ?_
    rotate_left
    · intro w'
      go_simp
      try with_reducible rfl
    rotate_left
    · simp only [Act.put, List.setIfInBounds_toArray, List.set_cons_zero, List.set_cons_succ, i64_w, i32_w]
      rfl
    refine pure_ (i := 49) (N := some 4) (v := ?_) (a' := ?_) #[true, true, true, true, true, true, true, true, true, true, true, true, true, true, true, true, true, true, true, true, true, true, true, true, true, true, true, true, true, true, true, true, true, true, true, true, true, true, true, true, true, true, true, true, true, true, true, true, true, true] rfl rfl (any_of HT_.out (by kernel_rfl)) (fun _ _ _ h => h) (Or.inl ⟨by rfl, ?_⟩) ?_ ?_
    rotate_left
    · intro w'
      go_simp
      try with_reducible rfl
    rotate_left
    · simp only [Act.put, List.setIfInBounds_toArray, List.set_cons_zero, List.set_cons_succ, i64_w, i32_w]
      rfl
    refine done_ (done_of HT_.out (by kernel_rfl)) ?_
    go_wp2_with fail
    go_ret
    exact ⟨rfl, ((Below.refl _ _).drew).trans HB.out⟩
end Go.Proofs.Ytandhpnpodkemaa.M
end

section
/- pair: a flash, and what it must be. -/
set_option linter.unusedVariables false
set_option linter.unusedSimpArgs false
set_option maxRecDepth 100000
namespace Go.Proofs.Ytandhpnpodkemaa.M
open Go.RowKit Go.Proofs.YtandhpnpodkemaaW.PrintWords Go.Proofs.YtandhpnpodkemaaW.PrintLast
theorem pair_bad (n : Int) (w : World) (h : n < 1 ∨ 1024 < n) : Calls Try.prog 26 #[.int .i64 n] w fun e w' => e = .returned (.tuple #[.pointer none, .pointer none, .bool true]) ∧ w' = w := by
  have H1 := Lib.hid (new_bad n w h); have H2 := Lib.hid (rnew_bad n w h)
  clear h
  go_enter Try.func26, Try.ntmps26
  go_wp2_with fail
  refine H1.out.mono ?_
  rintro e w1 ⟨rfl, rfl⟩
  go_wp2_with fail
  refine H2.out.mono ?_
  rintro e w1 ⟨rfl, rfl⟩
  go_wp2_with fail
  refine bodyPost_ret (v := .tuple #[.pointer none, .pointer none, .bool true]) (by simp [results, Try.results26, go_sem]) rfl ⟨rfl, rfl⟩
theorem pair_is (n : Nat) (w : World) (h1 : 1 ≤ n) (h2 : n ≤ 1024) : Calls Try.prog 26 #[.int .i64 (n : Int)] w fun e w' => ∃ f g q ob wb, e = .returned (.tuple #[.pointer (some ⟨f, 0, none⟩), .pointer (some ⟨q, 0, none⟩), .bool true]) ∧ IsF w' f g (newF n) ∧ IsR w' q ob wb (newF n) ∧ Below w.heap.size w w' ∧ (w.heap.size ≤ f ∧ w.heap.size ≤ g) ∧ w.heap.size ≤ q ∧ w.heap.size ≤ ob ∧ w.heap.size ≤ wb := by
  have H1 := Lib.hid (new_is n w h1 h2)
  have H2 := Lib.hid (fun W => rnew_is n W h1 h2)
  clear h1 h2
  go_enter Try.func26, Try.ntmps26
  go_wp2_with fail
  refine H1.out.mono ?_
  rintro e w1 ⟨rfl, hI, hb⟩
  have HI := Lib.hid hI; have HB := Lib.hid hb
  obtain ⟨f, hf⟩ : ∃ f, w.heap.size + 1 = f := ⟨_, rfl⟩
  obtain ⟨g, hg⟩ : ∃ g, w.heap.size = g := ⟨_, rfl⟩
  have HFG := Lib.hid (show w.heap.size ≤ f ∧ w.heap.size ≤ g by omega)
  rw [hf, hg] at HI
  rw [hf]
  clear hI hb hf hg
  go_wp2_with fail
  refine (H2.out _).mono ?_
  rintro e w2 ⟨q, wb, ob, rfl, hR, hb2, hq1, hq2, hq3⟩
  have HI2 := Lib.hid (HI.out.below hb2); have HR := Lib.hid hR; have HB2 := Lib.hid (HB.out.trans (hb2.mono HB.out.size))
  have HQ3 := Lib.hid (show w.heap.size ≤ q ∧ w.heap.size ≤ ob ∧ w.heap.size ≤ wb by have := HB.out.size; omega)
  clear hR hb2 hq1 hq2 hq3
  go_wp2_with fail
  refine bodyPost_ret (v := .tuple #[.pointer (some ⟨f, 0, none⟩), .pointer (some ⟨q, 0, none⟩), .bool true]) (by simp [results, Try.results26, go_sem]) rfl ⟨f, g, q, ob, wb, rfl, HI2.out, HR.out, HB2.out, HFG.out, HQ3.out⟩
end Go.Proofs.Ytandhpnpodkemaa.M
end

section
/- The flash and its reference side by side. -/
set_option linter.unusedVariables false
set_option linter.unusedSimpArgs false
namespace Go.Proofs.Ytandhpnpodkemaa.M
open Go.RowKit Go.Proofs.YtandhpnpodkemaaW.PrintWords Go.Proofs.YtandhpnpodkemaaW.PrintLast
theorem IsR.cap {w : World} {q ob wb : Nat} {fl : Fl} (h : IsR w q ob wb fl) (cap : Nat) : IsR w q ob wb (cloneF fl cap) := ⟨h.y, h.o, h.wr, h.n1, h.n2⟩
section
variable {B : Nat} {w0 w w' : World} {f g q ob wb : Nat} {fl fl' : Fl}
theorem fr_apart (h : IsF w f g fl) (k : IsR w q ob wb fl') : (f ≠ q ∧ f ≠ ob ∧ f ≠ wb) ∧ (g ≠ q ∧ g ≠ ob ∧ g ≠ wb) ∧ ¬ Tp w f ∧ ¬ Tp w g := by
  obtain ⟨kr, co, hy, _⟩ := k.y
  obtain ⟨cur, ho, _⟩ := k.o
  obtain ⟨cw, hw, _⟩ := k.wr
  obtain ⟨cg, hg, _⟩ := h.gh
  exact ⟨⟨blk_ne h.fh hy (by decide), blk_ne h.fh ho (by decide), blk_ne h.fh hw (by decide)⟩, ⟨blk_ne hg hy (by decide), blk_ne hg ho (by decide), blk_ne hg hw (by decide)⟩, not_tp h.fh (by decide) (by decide), not_tp hg (by decide) (by decide)⟩
theorem KeepF.toS (h : KeepF f g w w') : KeepS (fun k => k = f ∨ k = g) w w' := ⟨h.os, h.tape, h.output, h.size, fun i hi hn => h.block i hi (fun e => hn (.inl e)) (fun e => hn (.inr e))⟩
structure Pr (B : Nat) (w0 w : World) (f g q ob wb : Nat) (fl : Fl) : Prop where
  s : IsF w f g fl
  r : IsR w q ob wb fl
  u : 0 ≤ fl.fuse ∧ fl.fuse ≤ 9223372036854775807
  d : Below B w0 w
  bf : B ≤ f ∧ B ≤ g
  bq : B ≤ q ∧ B ≤ ob ∧ B ≤ wb
theorem Pr.le (h : Pr B w0 w f g q ob wb fl) : B ≤ w.heap.size := Nat.le_trans h.bf.1 (Nat.le_of_lt h.s.flt)
theorem Pr.below (h : Pr B w0 w f g q ob wb fl) (hb : Below w.heap.size w w') : Pr B w0 w' f g q ob wb fl := ⟨h.s.below hb, h.r.below hb, h.u, h.d.trans (hb.mono h.le), h.bf, h.bq⟩
theorem ref_stays (h : IsF w f g fl) (k : IsR w q ob wb fl') (hk : KeepF f g w w') : IsR w' q ob wb fl' := by
  obtain ⟨⟨a1, a2, a3⟩, ⟨b1, b2, b3⟩, t1, t2⟩ := fr_apart h k
  exact k.keep hk.toS (fun i e => by rcases e with e | e <;> subst e <;> assumption) (by rintro (e | e); exact a1 e.symm; exact b1 e.symm) (by rintro (e | e); exact a2 e.symm; exact b2 e.symm) (by rintro (e | e); exact a3 e.symm; exact b3 e.symm)
theorem flash_stays {S : Nat → Prop} (h : IsF w f g fl) (k : IsR w q ob wb fl') (hk : KeepS S w w') (hS : ∀ i, S i → i = q ∨ i = ob ∨ i = wb) : IsF w' f g fl := by
  obtain ⟨⟨a1, a2, a3⟩, ⟨b1, b2, b3⟩, t1, t2⟩ := fr_apart h k
  exact h.move (hk.block f h.flt (fun e => by rcases hS f e with e | e | e; exact a1 e; exact a2 e; exact a3 e)) (hk.block g h.glt (fun e => by rcases hS g e with e | e | e; exact b1 e; exact b2 e; exact b3 e))
theorem Pr.step {w1 : World} {S : Nat → Prop} {fl2 : Fl} (h : Pr B w0 w f g q ob wb fl) (hs : IsF w1 f g fl2) (hk : KeepF f g w w1) (hr : IsR w' q ob wb fl2) (hk2 : KeepS S w1 w') (hS : ∀ i, S i → i = q ∨ i = ob ∨ i = wb) (hu : 0 ≤ fl2.fuse ∧ fl2.fuse ≤ 9223372036854775807) : Pr B w0 w' f g q ob wb fl2 :=
  have k1 := ref_stays h.s h.r hk
  ⟨flash_stays hs k1 hk2 hS, hr, hu, (h.d.trans (hk.toS.below h.le (fun i e => by have := h.bf; rcases e with e | e <;> omega))).trans (hk2.below (Nat.le_trans h.le hk.size) (fun i e => by have := h.bq; rcases hS i e with e | e | e <;> omega)), h.bf, h.bq⟩
end
theorem fuse_change (fl : Fl) (cW cT : Nat → Int) (h : 0 ≤ fl.fuse ∧ fl.fuse ≤ 9223372036854775807) : 0 ≤ (changeF fl cW cT).fuse ∧ (changeF fl cW cT).fuse ≤ 9223372036854775807 := by
  unfold changeF
  split
  · exact ⟨Int.le_refl _, by show (0 : Int) ≤ _; decide⟩
  · show 0 ≤ max (fl.fuse - 1) 0 ∧ max (fl.fuse - 1) 0 ≤ _
    omega
theorem fuse_prog (fl : Fl) (b p : Int) (l : List Int) (h : 0 ≤ fl.fuse ∧ fl.fuse ≤ 9223372036854775807) : 0 ≤ (progF fl b p l).fuse ∧ (progF fl b p l).fuse ≤ 9223372036854775807 := by
  unfold progF
  split
  · exact fuse_change _ _ _ h
  · exact h
theorem fuse_erase (fl : Fl) (b : Int) (h : 0 ≤ fl.fuse ∧ fl.fuse ≤ 9223372036854775807) : 0 ≤ (eraseF fl b).fuse ∧ (eraseF fl b).fuse ≤ 9223372036854775807 := by
  unfold eraseF
  split
  · exact fuse_change _ _ _ h
  · exact h
theorem fuse_crash (fl : Fl) (h : 0 ≤ fl.fuse ∧ fl.fuse ≤ 9223372036854775807) : 0 ≤ (crashF fl).fuse ∧ (crashF fl).fuse ≤ 9223372036854775807 := by
  unfold crashF
  split
  · exact ⟨Int.le_refl _, by show (0 : Int) ≤ _; decide⟩
  · exact h
theorem fuse_spoil (fl : Fl) (b p i x : Int) (h : 0 ≤ fl.fuse ∧ fl.fuse ≤ 9223372036854775807) : 0 ≤ (spoilF fl b p i x).fuse ∧ (spoilF fl b p i x).fuse ≤ 9223372036854775807 := by
  unfold spoilF
  split
  · exact h
  · exact h
theorem fuse_set (fl : Fl) (n k : Int) (hn : n ≤ 9223372036854775807) (h : 0 ≤ fl.fuse ∧ fl.fuse ≤ 9223372036854775807) : 0 ≤ (setFuseF fl n k).fuse ∧ (setFuseF fl n k).fuse ≤ 9223372036854775807 := by
  unfold setFuseF
  split
  · next e =>
    have : 1 ≤ n := by
      unfold setFuseE looksE at e
      split at e
      · cases e
      · split at e
        · next h1 => exact of_decide_eq_true h1
        · cases e
    exact ⟨by show 0 ≤ n; omega, hn⟩
  · exact h
end Go.Proofs.Ytandhpnpodkemaa.M
end

section
/- step: Crash and Restart. -/
set_option linter.unusedVariables false
set_option linter.unusedSimpArgs false
set_option maxRecDepth 100000
namespace Go.Proofs.Ytandhpnpodkemaa.M
open Go.RowKit Go.Proofs.YtandhpnpodkemaaW.PrintWords Go.Proofs.YtandhpnpodkemaaW.PrintLast
def StepP (B : Nat) (w0 w : World) (f g q ob wb n : Nat) (e : Ending) (w' : World) : Prop := ∃ f' g' fl', e = .returned (.tuple #[.pointer (some ⟨f', 0, none⟩), .bool true]) ∧ Pr B w0 w' f' g' q ob wb fl' ∧ KeepS (fun k => k = f ∨ k = g ∨ k = q ∨ k = ob ∨ k = wb) w w' ∧ fl'.n = n
theorem keep5 {w x y z : World} {f g q ob wb : Nat} {S : Nat → Prop} (hb : Below w.heap.size w x) (h1 : KeepF f g x y) (h2 : KeepS S y z) (hS : ∀ i, S i → i = q ∨ i = ob ∨ i = wb) : KeepS (fun k => k = f ∨ k = g ∨ k = q ∨ k = ob ∨ k = wb) w z :=
  ((KeepS.of_below _ hb).trans (h1.toS.mono (fun i e => by rcases e with e | e; exact .inl e; exact .inr (.inl e)))).trans (h2.mono (fun i e => .inr (.inr (hS i e))))
theorem step_crash {B : Nat} {w0 w : World} {f g q ob wb : Nat} {fl : Fl} (h : Pr B w0 w f g q ob wb fl) (o : OpD) (A : Option Addr) (c : Nat) :
    Calls Try.prog 27 #[.pointer (some ⟨f, 0, none⟩), .pointer (some ⟨q, 0, none⟩), .agg #[.int .i64 4, .int .i64 o.Block, .int .i64 o.Page, .int .i64 o.At, .int .i64 o.Keep, .slice A o.B.length c]] w fun e w' => StepP B w0 w f g q ob wb fl.n e w' := by
  have HX := Lib.hid (heap_alloc_new w (.cells #[.int .i64 4, .int .i64 o.Block, .int .i64 o.Page, .int .i64 o.At, .int .i64 o.Keep, .slice A o.B.length c] 31))
  have HV := Lib.hid ((Below.refl w.heap.size w).alloc (Nat.le_refl _) (.cells #[.int .i64 4, .int .i64 o.Block, .int .i64 o.Page, .int .i64 o.At, .int .i64 o.Keep, .slice A o.B.length c] 31))
  have HP := Lib.hid (h.below ((Below.refl _ w).alloc (Nat.le_refl _) (.cells #[.int .i64 4, .int .i64 o.Block, .int .i64 o.Page, .int .i64 o.At, .int .i64 o.Keep, .slice A o.B.length c] 31)))
  obtain ⟨w1, hw1⟩ : ∃ V, w.alloc (.cells #[.int .i64 4, .int .i64 o.Block, .int .i64 o.Page, .int .i64 o.At, .int .i64 o.Keep, .slice A o.B.length c] 31) = V := ⟨_, rfl⟩
  obtain ⟨bx, hbx⟩ : ∃ bx, w.heap.size = bx := ⟨_, rfl⟩
  rw [hw1] at HX HP HV
  have HW := Lib.hid hw1; have HBX := Lib.hid hbx
  have HC := Lib.hid (crash_is HP.out.s)
  have HU := Lib.hid (fuse_crash fl HP.out.u : 0 ≤ (crashF fl).fuse ∧ (crashF fl).fuse ≤ 9223372036854775807)
  clear h hw1 hbx
  go_enter Try.func27, Try.ntmps27
  go_upto_region 1 with fail
  rw [HW.out]
  have x0 : w1.cell? ⟨w.heap.size, 0, none⟩ = some (.int .i64 4) := (blk_cell HX.out 0).trans rfl
  go_wp2_with fail
  refine HC.out.mono ?_
  rintro e w2 ⟨rfl, hI, hK⟩
  have HI := Lib.hid hI; have HK := Lib.hid hK
  have HR2 := Lib.hid (ref_stays HP.out.s HP.out.r hK)
  clear hI hK x0
  go_wp2_with fail
  refine (rcrash_is HR2.out).mono ?_
  rintro e w3 ⟨rfl, hR, hK⟩
  have HP3 := Lib.hid (HP.out.step HI.out HK.out hR hK (fun i e => .inl e) HU.out)
  have HK5 := Lib.hid (keep5 (q := q) (ob := ob) (wb := wb) HV.out HK.out hK (fun i e => .inl e))
  clear hR hK
  obtain ⟨z, hz⟩ : ∃ z, crashE fl = z := ⟨_, rfl⟩
  try rw [hz]
  have qz : (z == z) = true := by simp
  go_wp2_with fail
  go_ret2
  exact ⟨f, g, crashF fl, rfl, HP3.out, HK5.out, by first | rfl | (unfold crashF; split <;> rfl)⟩
theorem step_restart {B : Nat} {w0 w : World} {f g q ob wb : Nat} {fl : Fl} (h : Pr B w0 w f g q ob wb fl) (o : OpD) (A : Option Addr) (c : Nat) :
    Calls Try.prog 27 #[.pointer (some ⟨f, 0, none⟩), .pointer (some ⟨q, 0, none⟩), .agg #[.int .i64 5, .int .i64 o.Block, .int .i64 o.Page, .int .i64 o.At, .int .i64 o.Keep, .slice A o.B.length c]] w fun e w' => StepP B w0 w f g q ob wb fl.n e w' := by
  have HX := Lib.hid (heap_alloc_new w (.cells #[.int .i64 5, .int .i64 o.Block, .int .i64 o.Page, .int .i64 o.At, .int .i64 o.Keep, .slice A o.B.length c] 31))
  have HV := Lib.hid ((Below.refl w.heap.size w).alloc (Nat.le_refl _) (.cells #[.int .i64 5, .int .i64 o.Block, .int .i64 o.Page, .int .i64 o.At, .int .i64 o.Keep, .slice A o.B.length c] 31))
  have HP := Lib.hid (h.below ((Below.refl _ w).alloc (Nat.le_refl _) (.cells #[.int .i64 5, .int .i64 o.Block, .int .i64 o.Page, .int .i64 o.At, .int .i64 o.Keep, .slice A o.B.length c] 31)))
  obtain ⟨w1, hw1⟩ : ∃ V, w.alloc (.cells #[.int .i64 5, .int .i64 o.Block, .int .i64 o.Page, .int .i64 o.At, .int .i64 o.Keep, .slice A o.B.length c] 31) = V := ⟨_, rfl⟩
  obtain ⟨bx, hbx⟩ : ∃ bx, w.heap.size = bx := ⟨_, rfl⟩
  rw [hw1] at HX HP HV
  have HW := Lib.hid hw1; have HBX := Lib.hid hbx
  have HC := Lib.hid (restart_is HP.out.s)
  have HU := Lib.hid (HP.out.u : 0 ≤ (restartF fl).fuse ∧ (restartF fl).fuse ≤ 9223372036854775807)
  clear h hw1 hbx
  go_enter Try.func27, Try.ntmps27
  go_upto_region 1 with fail
  rw [HW.out]
  have x0 : w1.cell? ⟨w.heap.size, 0, none⟩ = some (.int .i64 5) := (blk_cell HX.out 0).trans rfl
  go_wp2_with fail
  refine HC.out.mono ?_
  rintro e w2 ⟨rfl, hI, hK⟩
  have HI := Lib.hid hI; have HK := Lib.hid hK
  have HR2 := Lib.hid (ref_stays HP.out.s HP.out.r hK)
  clear hI hK x0
  go_wp2_with fail
  refine (rrestart_is HR2.out).mono ?_
  rintro e w3 ⟨rfl, hR, hK⟩
  have HP3 := Lib.hid (HP.out.step HI.out HK.out hR hK (fun i e => .inl e) HU.out)
  have HK5 := Lib.hid (keep5 (q := q) (ob := ob) (wb := wb) HV.out HK.out hK (fun i e => .inl e))
  clear hR hK
  obtain ⟨z, hz⟩ : ∃ z, restartE fl = z := ⟨_, rfl⟩
  try rw [hz]
  have qz : (z == z) = true := by simp
  go_wp2_with fail
  go_ret2
  exact ⟨f, g, restartF fl, rfl, HP3.out, HK5.out, by first | rfl | (unfold crashF; split <;> rfl)⟩
end Go.Proofs.Ytandhpnpodkemaa.M
end

section
/- step: Program, Erase, SetFuse. -/
set_option linter.unusedVariables false
set_option linter.unusedSimpArgs false
set_option maxRecDepth 100000
attribute [local irreducible] Go.wpStill
namespace Go.Proofs.Ytandhpnpodkemaa.M
open Go.RowKit Go.Proofs.YtandhpnpodkemaaW.PrintWords Go.Proofs.YtandhpnpodkemaaW.PrintLast
attribute [local irreducible] eraseC fullC
set_option maxHeartbeats 1000000 in
theorem step_prog {B : Nat} {w0 w : World} {f g q ob wb : Nat} {fl : Fl} (h : Pr B w0 w f g q ob wb fl) (o : OpD) (A : Option Addr) (c : Nat) (hB : Kd.F (Kd.int .u8) w (fun k => k < B) A o.B.length o.B) :
    Calls Try.prog 27 #[.pointer (some ⟨f, 0, none⟩), .pointer (some ⟨q, 0, none⟩), .agg #[.int .i64 0, .int .i64 o.Block, .int .i64 o.Page, .int .i64 o.At, .int .i64 o.Keep, .slice A o.B.length c]] w fun e w' => StepP B w0 w f g q ob wb fl.n e w' := by
  have hb1 := (Below.refl w.heap.size w).alloc (Nat.le_refl _) (.cells #[.int .i64 0, .int .i64 o.Block, .int .i64 o.Page, .int .i64 o.At, .int .i64 o.Keep, .slice A o.B.length c] 31)
  have HX := Lib.hid (heap_alloc_new w (.cells #[.int .i64 0, .int .i64 o.Block, .int .i64 o.Page, .int .i64 o.At, .int .i64 o.Keep, .slice A o.B.length c] 31))
  have HP := Lib.hid ((h.below hb1).below (Below.refl _ (w.alloc (.cells #[.int .i64 0, .int .i64 o.Block, .int .i64 o.Page, .int .i64 o.At, .int .i64 o.Keep, .slice A o.B.length c] 31))).drew)
  have HV := Lib.hid hb1.drew
  have HB := Lib.hid (Kd.F_below (Kd.F_below hB hb1) (Below.refl _ (w.alloc (.cells #[.int .i64 0, .int .i64 o.Block, .int .i64 o.Page, .int .i64 o.At, .int .i64 o.Keep, .slice A o.B.length c] 31))).drew)
  obtain ⟨w1, hw1⟩ : ∃ V, w.alloc (.cells #[.int .i64 0, .int .i64 o.Block, .int .i64 o.Page, .int .i64 o.At, .int .i64 o.Keep, .slice A o.B.length c] 31) = V := ⟨_, rfl⟩
  rw [hw1] at HX HP HV
  rw [hw1] at HB
  have HW := Lib.hid hw1
  have HNE := Lib.hid (show (w.heap.size ≠ f ∧ w.heap.size ≠ g) ∧ w.heap.size ≠ q ∧ w.heap.size ≠ ob ∧ w.heap.size ≠ wb by
    have a1 := h.s.flt; have a2 := h.s.glt; have a3 := h.r.qlt; have a4 := h.r.olt; have a5 := h.r.wlt
    omega)
  have HXd := Lib.hid (show w1.drew.heap[w.heap.size]? = _ from HX.out)
  have HU := Lib.hid (fuse_prog _ _ _ _ HP.out.u : 0 ≤ (progF fl o.Block o.Page o.B).fuse ∧ (progF fl o.Block o.Page o.B).fuse ≤ 9223372036854775807)
  obtain ⟨z, hz⟩ : ∃ z, progE fl o.Block o.Page o.B.length = z := ⟨_, rfl⟩
  have HZ := Lib.hid hz
  have qz : (z == z) = true := by simp
  clear h hw1 hz hb1
  go_enter Try.func27, Try.ntmps27
  go_upto_region 1 with fail
  rw [HW.out]
  have x0 : w1.cell? ⟨w.heap.size, 0, none⟩ = some (.int .i64 0) := (blk_cell HX.out 0).trans rfl
  have y1 : w1.cell? ⟨w.heap.size, 1, none⟩ = some (.int .i64 o.Block) := (blk_cell HX.out 1).trans rfl; have y2 : w1.cell? ⟨w.heap.size, 2, none⟩ = some (.int .i64 o.Page) := (blk_cell HX.out 2).trans rfl; have y5 : w1.cell? ⟨w.heap.size, 5, none⟩ = some (.slice A o.B.length c) := (blk_cell HX.out 5).trans rfl
  go_wp2_with fail
  go_region_held3 (fun w' => w'.cell? ⟨w.heap.size, 1, none⟩ = some (.int .i64 o.Block) ∧ w'.cell? ⟨w.heap.size, 2, none⟩ = some (.int .i64 o.Page) ∧ w'.cell? ⟨w.heap.size, 5, none⟩ = some (.slice A o.B.length c)) (go_keep) (first
    | (go_at_call 9; refine (program_is HP.out.s HP.out.u o.Block o.Page A c o.B (Kd.F_mono HB.out (fun k hk => by have := HP.out.bf; omega))).mono ?_; rintro e w2 ⟨rfl, hI, hK⟩; rw [HZ.out]; have HI := Lib.hid hI; have HK := Lib.hid hK; have HR2 := Lib.hid (ref_stays HP.out.s HP.out.r hK); have HX2 := Lib.hid ((hK.block w.heap.size (blk_lt HXd.out) HNE.out.1.1 HNE.out.1.2).trans HXd.out); have p1 : w2.cell? ⟨w.heap.size, 1, none⟩ = some (.int .i64 o.Block) := (blk_cell HX2.out 1).trans rfl; have p2 : w2.cell? ⟨w.heap.size, 2, none⟩ = some (.int .i64 o.Page) := (blk_cell HX2.out 2).trans rfl; have p5 : w2.cell? ⟨w.heap.size, 5, none⟩ = some (.slice A o.B.length c) := (blk_cell HX2.out 5).trans rfl; clear hI hK)
    | (go_at_call 51; refine (rprogram_is HR2.out HP.out.u o.Block o.Page A c o.B (Kd.F_mono (Kd.F_step HB.out (fun k hk hlt => HK.out.block k hlt (by have := HP.out.bf; omega) (by have := HP.out.bf; omega))) (fun k hk => by have := HP.out.bq; omega))).mono ?_; rintro e w3 ⟨rfl, hR, hK⟩; rw [HZ.out]; have HP3 := Lib.hid (HP.out.step HI.out HK.out hR hK (fun i e => e) HU.out); have HX3 := Lib.hid ((hK.block w.heap.size (blk_lt HX2.out) (fun e => by have := HNE.out.2; omega)).trans HX2.out); have HK5 := Lib.hid (keep5 (q := q) (ob := ob) (wb := wb) HV.out HK.out hK (fun i e => e)); have r1 : w3.cell? ⟨w.heap.size, 1, none⟩ = some (.int .i64 o.Block) := (blk_cell HX3.out 1).trans rfl; have r2 : w3.cell? ⟨w.heap.size, 2, none⟩ = some (.int .i64 o.Page) := (blk_cell HX3.out 2).trans rfl; have r5 : w3.cell? ⟨w.heap.size, 5, none⟩ = some (.slice A o.B.length c) := (blk_cell HX3.out 5).trans rfl; clear hR hK))
  go_wp2_with fail
  go_ret2
  exact ⟨f, g, progF fl o.Block o.Page o.B, rfl, HP3.out, HK5.out, progF_n _ _ _ _⟩
set_option maxHeartbeats 1000000 in
theorem step_erase {B : Nat} {w0 w : World} {f g q ob wb : Nat} {fl : Fl} (h : Pr B w0 w f g q ob wb fl) (o : OpD) (A : Option Addr) (c : Nat) :
    Calls Try.prog 27 #[.pointer (some ⟨f, 0, none⟩), .pointer (some ⟨q, 0, none⟩), .agg #[.int .i64 2, .int .i64 o.Block, .int .i64 o.Page, .int .i64 o.At, .int .i64 o.Keep, .slice A o.B.length c]] w fun e w' => StepP B w0 w f g q ob wb fl.n e w' := by
  have hb1 := (Below.refl w.heap.size w).alloc (Nat.le_refl _) (.cells #[.int .i64 2, .int .i64 o.Block, .int .i64 o.Page, .int .i64 o.At, .int .i64 o.Keep, .slice A o.B.length c] 31)
  have HX := Lib.hid (heap_alloc_new w (.cells #[.int .i64 2, .int .i64 o.Block, .int .i64 o.Page, .int .i64 o.At, .int .i64 o.Keep, .slice A o.B.length c] 31))
  have HP := Lib.hid ((h.below hb1).below (Below.refl _ (w.alloc (.cells #[.int .i64 2, .int .i64 o.Block, .int .i64 o.Page, .int .i64 o.At, .int .i64 o.Keep, .slice A o.B.length c] 31))).drew)
  have HV := Lib.hid hb1.drew
  obtain ⟨w1, hw1⟩ : ∃ V, w.alloc (.cells #[.int .i64 2, .int .i64 o.Block, .int .i64 o.Page, .int .i64 o.At, .int .i64 o.Keep, .slice A o.B.length c] 31) = V := ⟨_, rfl⟩
  rw [hw1] at HX HP HV
  skip
  have HW := Lib.hid hw1
  have HNE := Lib.hid (show (w.heap.size ≠ f ∧ w.heap.size ≠ g) ∧ w.heap.size ≠ q ∧ w.heap.size ≠ ob ∧ w.heap.size ≠ wb by
    have a1 := h.s.flt; have a2 := h.s.glt; have a3 := h.r.qlt; have a4 := h.r.olt; have a5 := h.r.wlt
    omega)
  have HXd := Lib.hid (show w1.drew.heap[w.heap.size]? = _ from HX.out)
  have HU := Lib.hid (fuse_erase _ _ HP.out.u : 0 ≤ (eraseF fl o.Block).fuse ∧ (eraseF fl o.Block).fuse ≤ 9223372036854775807)
  obtain ⟨z, hz⟩ : ∃ z, eraseE fl o.Block = z := ⟨_, rfl⟩
  have HZ := Lib.hid hz
  have qz : (z == z) = true := by simp
  clear h hw1 hz hb1
  go_enter Try.func27, Try.ntmps27
  go_upto_region 1 with fail
  rw [HW.out]
  have x0 : w1.cell? ⟨w.heap.size, 0, none⟩ = some (.int .i64 2) := (blk_cell HX.out 0).trans rfl
  have y1 : w1.cell? ⟨w.heap.size, 1, none⟩ = some (.int .i64 o.Block) := (blk_cell HX.out 1).trans rfl
  go_wp2_with fail
  go_region_held3 (fun w' => w'.cell? ⟨w.heap.size, 1, none⟩ = some (.int .i64 o.Block)) (go_keep) (first
    | (go_at_call 11; refine (erase_is HP.out.s HP.out.u o.Block).mono ?_; rintro e w2 ⟨rfl, hI, hK⟩; rw [HZ.out]; have HI := Lib.hid hI; have HK := Lib.hid hK; have HR2 := Lib.hid (ref_stays HP.out.s HP.out.r hK); have HX2 := Lib.hid ((hK.block w.heap.size (blk_lt HXd.out) HNE.out.1.1 HNE.out.1.2).trans HXd.out); have p1 : w2.cell? ⟨w.heap.size, 1, none⟩ = some (.int .i64 o.Block) := (blk_cell HX2.out 1).trans rfl; clear hI hK)
    | (go_at_call 53; refine (rerase_is HR2.out HP.out.u o.Block).mono ?_; rintro e w3 ⟨rfl, hR, hK⟩; rw [HZ.out]; have HP3 := Lib.hid (HP.out.step HI.out HK.out hR hK (fun i e => e) HU.out); have HX3 := Lib.hid ((hK.block w.heap.size (blk_lt HX2.out) (fun e => by have := HNE.out.2; omega)).trans HX2.out); have HK5 := Lib.hid (keep5 (q := q) (ob := ob) (wb := wb) HV.out HK.out hK (fun i e => e)); have r1 : w3.cell? ⟨w.heap.size, 1, none⟩ = some (.int .i64 o.Block) := (blk_cell HX3.out 1).trans rfl; clear hR hK))
  go_wp2_with fail
  go_ret2
  exact ⟨f, g, eraseF fl o.Block, rfl, HP3.out, HK5.out, eraseF_n _ _⟩
set_option maxHeartbeats 1000000 in
theorem step_fuse {B : Nat} {w0 w : World} {f g q ob wb : Nat} {fl : Fl} (h : Pr B w0 w f g q ob wb fl) (o : OpD) (A : Option Addr) (c : Nat) (hat : o.At ≤ 9223372036854775807) :
    Calls Try.prog 27 #[.pointer (some ⟨f, 0, none⟩), .pointer (some ⟨q, 0, none⟩), .agg #[.int .i64 3, .int .i64 o.Block, .int .i64 o.Page, .int .i64 o.At, .int .i64 o.Keep, .slice A o.B.length c]] w fun e w' => StepP B w0 w f g q ob wb fl.n e w' := by
  have hb1 := (Below.refl w.heap.size w).alloc (Nat.le_refl _) (.cells #[.int .i64 3, .int .i64 o.Block, .int .i64 o.Page, .int .i64 o.At, .int .i64 o.Keep, .slice A o.B.length c] 31)
  have HX := Lib.hid (heap_alloc_new w (.cells #[.int .i64 3, .int .i64 o.Block, .int .i64 o.Page, .int .i64 o.At, .int .i64 o.Keep, .slice A o.B.length c] 31))
  have HP := Lib.hid ((h.below hb1).below (Below.refl _ (w.alloc (.cells #[.int .i64 3, .int .i64 o.Block, .int .i64 o.Page, .int .i64 o.At, .int .i64 o.Keep, .slice A o.B.length c] 31))).drew)
  have HV := Lib.hid hb1.drew
  obtain ⟨w1, hw1⟩ : ∃ V, w.alloc (.cells #[.int .i64 3, .int .i64 o.Block, .int .i64 o.Page, .int .i64 o.At, .int .i64 o.Keep, .slice A o.B.length c] 31) = V := ⟨_, rfl⟩
  rw [hw1] at HX HP HV
  skip
  have HW := Lib.hid hw1
  have HNE := Lib.hid (show (w.heap.size ≠ f ∧ w.heap.size ≠ g) ∧ w.heap.size ≠ q ∧ w.heap.size ≠ ob ∧ w.heap.size ≠ wb by
    have a1 := h.s.flt; have a2 := h.s.glt; have a3 := h.r.qlt; have a4 := h.r.olt; have a5 := h.r.wlt
    omega)
  have HXd := Lib.hid (show w1.drew.heap[w.heap.size]? = _ from HX.out)
  have HU := Lib.hid (fuse_set _ _ _ hat HP.out.u : 0 ≤ (setFuseF fl o.At o.Keep).fuse ∧ (setFuseF fl o.At o.Keep).fuse ≤ 9223372036854775807)
  obtain ⟨z, hz⟩ : ∃ z, setFuseE fl o.At = z := ⟨_, rfl⟩
  have HZ := Lib.hid hz
  have qz : (z == z) = true := by simp
  clear h hw1 hz hb1
  go_enter Try.func27, Try.ntmps27
  go_upto_region 1 with fail
  rw [HW.out]
  have x0 : w1.cell? ⟨w.heap.size, 0, none⟩ = some (.int .i64 3) := (blk_cell HX.out 0).trans rfl
  have y3 : w1.cell? ⟨w.heap.size, 3, none⟩ = some (.int .i64 o.At) := (blk_cell HX.out 3).trans rfl; have y4 : w1.cell? ⟨w.heap.size, 4, none⟩ = some (.int .i64 o.Keep) := (blk_cell HX.out 4).trans rfl
  go_wp2_with fail
  go_region_held3 (fun w' => w'.cell? ⟨w.heap.size, 3, none⟩ = some (.int .i64 o.At) ∧ w'.cell? ⟨w.heap.size, 4, none⟩ = some (.int .i64 o.Keep)) (go_keep) (first
    | (go_at_call 13; refine (setfuse_is HP.out.s o.At o.Keep).mono ?_; rintro e w2 ⟨rfl, hI, hK⟩; rw [HZ.out]; have HI := Lib.hid hI; have HK := Lib.hid hK; have HR2 := Lib.hid (ref_stays HP.out.s HP.out.r hK); have HX2 := Lib.hid ((hK.block w.heap.size (blk_lt HXd.out) HNE.out.1.1 HNE.out.1.2).trans HXd.out); have p3 : w2.cell? ⟨w.heap.size, 3, none⟩ = some (.int .i64 o.At) := (blk_cell HX2.out 3).trans rfl; have p4 : w2.cell? ⟨w.heap.size, 4, none⟩ = some (.int .i64 o.Keep) := (blk_cell HX2.out 4).trans rfl; clear hI hK)
    | (go_at_call 54; refine (rsetfuse_is HR2.out o.At o.Keep).mono ?_; rintro e w3 ⟨rfl, hR, hK⟩; rw [HZ.out]; have HP3 := Lib.hid (HP.out.step HI.out HK.out hR hK (fun i e => .inl e) HU.out); have HX3 := Lib.hid ((hK.block w.heap.size (blk_lt HX2.out) (fun e => by have := HNE.out.2; omega)).trans HX2.out); have HK5 := Lib.hid (keep5 (q := q) (ob := ob) (wb := wb) HV.out HK.out hK (fun i e => .inl e)); have r3 : w3.cell? ⟨w.heap.size, 3, none⟩ = some (.int .i64 o.At) := (blk_cell HX3.out 3).trans rfl; have r4 : w3.cell? ⟨w.heap.size, 4, none⟩ = some (.int .i64 o.Keep) := (blk_cell HX3.out 4).trans rfl; clear hR hK))
  go_wp2_with fail
  go_ret2
  exact ⟨f, g, setFuseF fl o.At o.Keep, rfl, HP3.out, HK5.out, by unfold setFuseF; split <;> rfl⟩
end Go.Proofs.Ytandhpnpodkemaa.M
end

section
/- step: Spoil. -/
set_option linter.unusedVariables false
set_option linter.unusedSimpArgs false
set_option maxRecDepth 100000
attribute [local irreducible] Go.wpStill
namespace Go.Proofs.Ytandhpnpodkemaa.M
open Go.RowKit Go.Proofs.YtandhpnpodkemaaW.PrintWords Go.Proofs.YtandhpnpodkemaaW.PrintLast
set_option maxHeartbeats 1000000 in
theorem step_spoil {B : Nat} {w0 w : World} {f g q ob wb : Nat} {fl : Fl} (h : Pr B w0 w f g q ob wb fl) (o : OpD) (A : Option Addr) (c : Nat) :
    Calls Try.prog 27 #[.pointer (some ⟨f, 0, none⟩), .pointer (some ⟨q, 0, none⟩), .agg #[.int .i64 6, .int .i64 o.Block, .int .i64 o.Page, .int .i64 o.At, .int .i64 o.Keep, .slice A o.B.length c]] w fun e w' => StepP B w0 w f g q ob wb fl.n e w' := by
  have hb1 := (Below.refl w.heap.size w).alloc (Nat.le_refl _) (.cells #[.int .i64 6, .int .i64 o.Block, .int .i64 o.Page, .int .i64 o.At, .int .i64 o.Keep, .slice A o.B.length c] 31)
  have HX := Lib.hid (heap_alloc_new w (.cells #[.int .i64 6, .int .i64 o.Block, .int .i64 o.Page, .int .i64 o.At, .int .i64 o.Keep, .slice A o.B.length c] 31))
  have HP := Lib.hid ((h.below hb1).below (Below.refl _ (w.alloc (.cells #[.int .i64 6, .int .i64 o.Block, .int .i64 o.Page, .int .i64 o.At, .int .i64 o.Keep, .slice A o.B.length c] 31))).drew)
  have HV := Lib.hid hb1.drew
  obtain ⟨w1, hw1⟩ : ∃ V, w.alloc (.cells #[.int .i64 6, .int .i64 o.Block, .int .i64 o.Page, .int .i64 o.At, .int .i64 o.Keep, .slice A o.B.length c] 31) = V := ⟨_, rfl⟩
  rw [hw1] at HX HP HV
  skip
  have HW := Lib.hid hw1
  have HNE := Lib.hid (show (w.heap.size ≠ f ∧ w.heap.size ≠ g) ∧ w.heap.size ≠ q ∧ w.heap.size ≠ ob ∧ w.heap.size ≠ wb by
    have a1 := h.s.flt; have a2 := h.s.glt; have a3 := h.r.qlt; have a4 := h.r.olt; have a5 := h.r.wlt
    omega)
  have HXd := Lib.hid (show w1.drew.heap[w.heap.size]? = _ from HX.out)
  have HU := Lib.hid (fuse_spoil _ _ _ _ _ HP.out.u : 0 ≤ (spoilF fl o.Block o.Page o.At (IntKind.u8.wrap o.Keep)).fuse ∧ (spoilF fl o.Block o.Page o.At (IntKind.u8.wrap o.Keep)).fuse ≤ 9223372036854775807)
  obtain ⟨z, hz⟩ : ∃ z, spoilE fl o.Block o.Page o.At = z := ⟨_, rfl⟩
  have HZ := Lib.hid hz
  have qz : (z == z) = true := by simp
  clear h hw1 hz hb1
  go_enter Try.func27, Try.ntmps27
  go_upto_region 1 with fail
  rw [HW.out]
  have x0 : w1.cell? ⟨w.heap.size, 0, none⟩ = some (.int .i64 6) := (blk_cell HX.out 0).trans rfl
  have y1 : w1.cell? ⟨w.heap.size, 1, none⟩ = some (.int .i64 o.Block) := (blk_cell HX.out 1).trans rfl; have y2 : w1.cell? ⟨w.heap.size, 2, none⟩ = some (.int .i64 o.Page) := (blk_cell HX.out 2).trans rfl; have y3 : w1.cell? ⟨w.heap.size, 3, none⟩ = some (.int .i64 o.At) := (blk_cell HX.out 3).trans rfl; have y4 : w1.cell? ⟨w.heap.size, 4, none⟩ = some (.int .i64 o.Keep) := (blk_cell HX.out 4).trans rfl
  go_wp2_with fail
  go_region_held3 (fun w' => w'.cell? ⟨w.heap.size, 1, none⟩ = some (.int .i64 o.Block) ∧ w'.cell? ⟨w.heap.size, 2, none⟩ = some (.int .i64 o.Page) ∧ w'.cell? ⟨w.heap.size, 3, none⟩ = some (.int .i64 o.At) ∧ w'.cell? ⟨w.heap.size, 4, none⟩ = some (.int .i64 o.Keep)) (go_keep) (first
    | (go_at_call 19; refine (spoil_is HP.out.s o.Block o.Page o.At (IntKind.u8.wrap o.Keep)).mono ?_; rintro e w2 ⟨rfl, hI, hK⟩; rw [HZ.out]; have HI := Lib.hid hI; have HK := Lib.hid hK; have HR2 := Lib.hid (ref_stays HP.out.s HP.out.r hK); have HX2 := Lib.hid ((hK.block w.heap.size (blk_lt HXd.out) HNE.out.1.1 HNE.out.1.2).trans HXd.out); have p1 : w2.cell? ⟨w.heap.size, 1, none⟩ = some (.int .i64 o.Block) := (blk_cell HX2.out 1).trans rfl; have p2 : w2.cell? ⟨w.heap.size, 2, none⟩ = some (.int .i64 o.Page) := (blk_cell HX2.out 2).trans rfl; have p3 : w2.cell? ⟨w.heap.size, 3, none⟩ = some (.int .i64 o.At) := (blk_cell HX2.out 3).trans rfl; have p4 : w2.cell? ⟨w.heap.size, 4, none⟩ = some (.int .i64 o.Keep) := (blk_cell HX2.out 4).trans rfl; clear hI hK)
    | (go_at_call 57; refine (rspoil_is HR2.out o.Block o.Page o.At (IntKind.u8.wrap o.Keep)).mono ?_; rintro e w3 ⟨rfl, hR, hK⟩; rw [HZ.out]; have HP3 := Lib.hid (HP.out.step HI.out HK.out hR hK (fun i e => e) HU.out); have HX3 := Lib.hid ((hK.block w.heap.size (blk_lt HX2.out) (fun e => by have := HNE.out.2; omega)).trans HX2.out); have HK5 := Lib.hid (keep5 (q := q) (ob := ob) (wb := wb) HV.out HK.out hK (fun i e => e)); have r1 : w3.cell? ⟨w.heap.size, 1, none⟩ = some (.int .i64 o.Block) := (blk_cell HX3.out 1).trans rfl; have r2 : w3.cell? ⟨w.heap.size, 2, none⟩ = some (.int .i64 o.Page) := (blk_cell HX3.out 2).trans rfl; have r3 : w3.cell? ⟨w.heap.size, 3, none⟩ = some (.int .i64 o.At) := (blk_cell HX3.out 3).trans rfl; have r4 : w3.cell? ⟨w.heap.size, 4, none⟩ = some (.int .i64 o.Keep) := (blk_cell HX3.out 4).trans rfl; clear hR hK))
  go_wp2_with fail
  go_ret2
  exact ⟨f, g, spoilF fl o.Block o.Page o.At (IntKind.u8.wrap o.Keep), rfl, HP3.out, HK5.out, by unfold spoilF; split <;> rfl⟩
end Go.Proofs.Ytandhpnpodkemaa.M
end

section
/- bytes.Equal of two rows of bytes that read alike: it is true. -/
set_option linter.unusedVariables false
set_option linter.unusedSimpArgs false
set_option maxRecDepth 100000
namespace Go.Proofs.Ytandhpnpodkemaa.M
open Go.RowKit Go.Proofs.YtandhpnpodkemaaW.PrintWords
theorem equal_same {w : World} (A B : Option Addr) (n m c d : Nat) (l : List Int) (h1 : Kd.C (Kd.int .u8) w A n l) (h2 : Kd.C (Kd.int .u8) w B m l) :
    Calls Try.prog 17 #[.slice A n c, .slice B m d] w fun e w' => e = .returned (.bool true) ∧ w = w' := by
  have g1 := Kd.C_string (P := Try.prog) (src := 29) (e := 5) (dst := 9) (c := c) Try.underlying29 Try.underlying5 Try.underlying9 h1
  have g2 := Kd.C_string (P := Try.prog) (src := 29) (e := 5) (dst := 9) (c := d) Try.underlying29 Try.underlying5 Try.underlying9 h2
  obtain ⟨s, hs⟩ : ∃ s, strOfNums l = s := ⟨_, rfl⟩
  rw [hs] at g1 g2
  clear hs h1 h2
  go_enter Try.func17, Try.ntmps17
  go_wp2
  go_ret
  exact ⟨by simp, rfl⟩
end Go.Proofs.Ytandhpnpodkemaa.M
end

section
/- step: Read, and the clone. -/
set_option linter.unusedVariables false
set_option linter.unusedSimpArgs false
set_option maxRecDepth 100000
namespace Go.Proofs.Ytandhpnpodkemaa.M
open Go.RowKit Go.Proofs.YtandhpnpodkemaaW.PrintWords Go.Proofs.YtandhpnpodkemaaW.PrintLast
attribute [local irreducible] eraseC fullC
set_option maxHeartbeats 1000000 in
theorem step_read {B : Nat} {w0 w : World} {f g q ob wb : Nat} {fl : Fl} (h : Pr B w0 w f g q ob wb fl) (o : OpD) (A : Option Addr) (c : Nat) :
    Calls Try.prog 27 #[.pointer (some ⟨f, 0, none⟩), .pointer (some ⟨q, 0, none⟩), .agg #[.int .i64 1, .int .i64 o.Block, .int .i64 o.Page, .int .i64 o.At, .int .i64 o.Keep, .slice A o.B.length c]] w fun e w' => StepP B w0 w f g q ob wb fl.n e w' := by
  have hb1 := (Below.refl w.heap.size w).alloc (Nat.le_refl _) (.cells #[.int .i64 1, .int .i64 o.Block, .int .i64 o.Page, .int .i64 o.At, .int .i64 o.Keep, .slice A o.B.length c] 31)
  have HX := Lib.hid (heap_alloc_new w (.cells #[.int .i64 1, .int .i64 o.Block, .int .i64 o.Page, .int .i64 o.At, .int .i64 o.Keep, .slice A o.B.length c] 31))
  have HV := Lib.hid hb1; have HP := Lib.hid (h.below hb1)
  obtain ⟨w1, hw1⟩ : ∃ V, w.alloc (.cells #[.int .i64 1, .int .i64 o.Block, .int .i64 o.Page, .int .i64 o.At, .int .i64 o.Keep, .slice A o.B.length c] 31) = V := ⟨_, rfl⟩
  rw [hw1] at HX HP HV
  have HW := Lib.hid hw1
  obtain ⟨z, hz⟩ : ∃ z, readE fl o.Block o.Page = z := ⟨_, rfl⟩
  have HZ := Lib.hid hz
  obtain ⟨l, hl⟩ : ∃ l, readL fl o.Block o.Page = l := ⟨_, rfl⟩
  have HL := Lib.hid hl
  have qz : (z == z) = true := by simp
  clear h hw1 hz hb1 hl
  go_enter Try.func27, Try.ntmps27
  go_upto_region 1 with fail
  rw [HW.out]
  have x0 : w1.cell? ⟨w.heap.size, 0, none⟩ = some (.int .i64 1) := (blk_cell HX.out 0).trans rfl
  have x1 : w1.cell? ⟨w.heap.size, 1, none⟩ = some (.int .i64 o.Block) := (blk_cell HX.out 1).trans rfl
  have x2 : w1.cell? ⟨w.heap.size, 2, none⟩ = some (.int .i64 o.Page) := (blk_cell HX.out 2).trans rfl
  go_wp2_with fail
  refine (read_is HP.out.s o.Block o.Page).mono ?_
  rintro e w2 ⟨v, rfl, hO, hb⟩
  rw [HZ.out]
  rw [HL.out] at hO
  obtain ⟨A2, c2, rfl⟩ := Kd.R_slice hO
  have HO := Lib.hid (Kd.R_reads' hO).2.2
  have HP2 := Lib.hid (HP.out.below hb); have HV2 := Lib.hid (HV.out.trans (hb.mono HV.out.size))
  have HX2 := Lib.hid ((hb.block w.heap.size (blk_lt HX.out)).trans HX.out)
  clear hO hb x0 x1 x2
  have x1 : w2.cell? ⟨w.heap.size, 1, none⟩ = some (.int .i64 o.Block) := (blk_cell HX2.out 1).trans rfl
  have x2 : w2.cell? ⟨w.heap.size, 2, none⟩ = some (.int .i64 o.Page) := (blk_cell HX2.out 2).trans rfl
  go_wp2_with fail
  refine (rread_is HP2.out.r o.Block o.Page).mono ?_
  rintro e w3 ⟨v, rfl, hO, hb⟩
  rw [HZ.out]
  rw [HL.out] at hO
  obtain ⟨A3, c3, rfl, _, _, hC⟩ := hO.reads
  have HC := Lib.hid hC; have HO3 := Lib.hid (Kd.C_below HO.out hb)
  have HP3 := Lib.hid (HP2.out.below hb); have HV3 := Lib.hid (HV2.out.trans (hb.mono HV2.out.size))
  clear hO hb x1 x2 hC
  go_wp2_with fail
  refine (equal_same A2 A3 _ _ _ _ l HO3.out HC.out).mono ?_
  rintro e w4 ⟨rfl, rfl⟩
  go_wp2_with fail
  go_ret2
  exact ⟨f, g, fl, rfl, HP3.out, KeepS.of_below _ HV3.out, rfl⟩
set_option maxHeartbeats 1000000 in
theorem step_clone {B : Nat} {w0 w : World} {f g q ob wb : Nat} {fl : Fl} (h : Pr B w0 w f g q ob wb fl) (o : OpD) (A : Option Addr) (c : Nat) (hB : Kd.F (Kd.int .u8) w (fun k => k < B) A o.B.length o.B) (hk : ∀ k : Int, 0 ≤ k → k < 7 → o.Do ≠ k) :
    Calls Try.prog 27 #[.pointer (some ⟨f, 0, none⟩), .pointer (some ⟨q, 0, none⟩), .agg #[.int .i64 o.Do, .int .i64 o.Block, .int .i64 o.Page, .int .i64 o.At, .int .i64 o.Keep, .slice A o.B.length c]] w fun e w' => StepP B w0 w f g q ob wb fl.n e w' := by
  have hb1 := (Below.refl w.heap.size w).alloc (Nat.le_refl _) (.cells #[.int .i64 o.Do, .int .i64 o.Block, .int .i64 o.Page, .int .i64 o.At, .int .i64 o.Keep, .slice A o.B.length c] 31)
  have HX := Lib.hid (heap_alloc_new w (.cells #[.int .i64 o.Do, .int .i64 o.Block, .int .i64 o.Page, .int .i64 o.At, .int .i64 o.Keep, .slice A o.B.length c] 31))
  have HV := Lib.hid hb1; have HP := Lib.hid (h.below hb1); have HB := Lib.hid (Kd.F_below hB hb1)
  obtain ⟨w1, hw1⟩ : ∃ V, w.alloc (.cells #[.int .i64 o.Do, .int .i64 o.Block, .int .i64 o.Page, .int .i64 o.At, .int .i64 o.Keep, .slice A o.B.length c] 31) = V := ⟨_, rfl⟩
  rw [hw1] at HX HP HB HV
  have HW := Lib.hid hw1
  have HNE := Lib.hid (show w.heap.size ≠ f ∧ w.heap.size ≠ g by have a1 := h.s.flt; have a2 := h.s.glt; omega)
  obtain ⟨dd, hdd⟩ : ∃ dd, o.Do = dd := ⟨_, rfl⟩
  rw [hdd] at HX hk ⊢
  have p0 : (dd == 0) = false := beq_eq_false_iff_ne.2 (hk 0 (by omega) (by omega))
  have p1 : (dd == 1) = false := beq_eq_false_iff_ne.2 (hk 1 (by omega) (by omega))
  have p2 : (dd == 2) = false := beq_eq_false_iff_ne.2 (hk 2 (by omega) (by omega))
  have p3 : (dd == 3) = false := beq_eq_false_iff_ne.2 (hk 3 (by omega) (by omega))
  have p4 : (dd == 4) = false := beq_eq_false_iff_ne.2 (hk 4 (by omega) (by omega))
  have p5 : (dd == 5) = false := beq_eq_false_iff_ne.2 (hk 5 (by omega) (by omega))
  have p6 : (dd == 6) = false := beq_eq_false_iff_ne.2 (hk 6 (by omega) (by omega))
  have HDD := Lib.hid hdd
  clear h hw1 hb1 hB hk hdd
  go_enter Try.func27, Try.ntmps27
  go_upto_region 1 with fail
  rw [← HDD.out, HW.out, HDD.out]
  have x0 : w1.cell? ⟨w.heap.size, 0, none⟩ = some (.int .i64 dd) := (blk_cell HX.out 0).trans rfl
  go_wp2_with fail
  refine (clone_is HP.out.s).mono ?_
  rintro e w2 ⟨f2, g2, cap, rfl, hn, hI, hb⟩
  have HN2 := Lib.hid (show w1.heap.size ≤ f2 ∧ w1.heap.size ≤ g2 ∧ f < w1.heap.size ∧ g < w1.heap.size from ⟨hn.1, hn.2, HP.out.s.flt, HP.out.s.glt⟩)
  have HI2 := Lib.hid hI; have HV2 := Lib.hid (HV.out.trans (hb.mono HV.out.size)); have HP2 := Lib.hid (HP.out.below hb); have HB2 := Lib.hid (Kd.F_below HB.out hb); have HX2 := Lib.hid ((hb.block w.heap.size (blk_lt HX.out)).trans HX.out)
  clear hn hI hb x0 p0 p1 p2 p3 p4 p5 p6
  go_wp2_with fail
  refine (same_is HI2.out HP2.out.s).mono ?_
  rintro e w3 ⟨rfl, hb⟩
  have HI3 := Lib.hid (HI2.out.below hb); have HV3 := Lib.hid (HV2.out.trans (hb.mono HV2.out.size)); have HP3 := Lib.hid (HP2.out.below hb); have HB3 := Lib.hid (Kd.F_below HB2.out hb); have HX3 := Lib.hid ((hb.block w.heap.size (blk_lt HX2.out)).trans HX2.out)
  clear hb
  have x1 : w3.cell? ⟨w.heap.size, 1, none⟩ = some (.int .i64 o.Block) := (blk_cell HX3.out 1).trans rfl
  have x2 : w3.cell? ⟨w.heap.size, 2, none⟩ = some (.int .i64 o.Page) := (blk_cell HX3.out 2).trans rfl
  have x5 : w3.cell? ⟨w.heap.size, 5, none⟩ = some (.slice A o.B.length c) := (blk_cell HX3.out 5).trans rfl
  go_wp2_with fail
  refine (program_is HP3.out.s HP3.out.u o.Block o.Page A c o.B (Kd.F_mono HB3.out (fun k hk => by have := HP3.out.bf; omega))).mono ?_
  rintro e w4 ⟨rfl, hI, hK⟩
  have HF4 := Lib.hid hI; have HK4 := Lib.hid hK; have HR4 := Lib.hid (ref_stays HP3.out.s HP3.out.r hK); have HX4 := Lib.hid ((hK.block w.heap.size (blk_lt HX3.out) HNE.out.1 HNE.out.2).trans HX3.out)
  clear hI hK x1 x2 x5
  have x1 : w4.cell? ⟨w.heap.size, 1, none⟩ = some (.int .i64 o.Block) := (blk_cell HX4.out 1).trans rfl
  go_wp2_with fail
  refine (erase_is HF4.out (fuse_prog _ _ _ _ HP3.out.u) o.Block).mono ?_
  rintro e w5 ⟨rfl, hI, hK⟩
  have HF5 := Lib.hid hI; have HK5 := Lib.hid (HK4.out.trans hK); have HR5 := Lib.hid (ref_stays HF4.out HR4.out hK)
  clear hI hK x1
  go_wp2_with fail
  refine (crash_is HF5.out).mono ?_
  rintro e w6 ⟨rfl, hI, hK⟩
  have HK6 := Lib.hid (HK5.out.trans hK); have HR6 := Lib.hid (ref_stays HF5.out HR5.out hK)
  clear hI hK
  go_wp2_with fail
  go_ret2
  have hn := HN2.out
  have hbf := HP3.out.bf
  have hI6 : IsF w6 f2 g2 (cloneF fl cap) := HI3.out.move (HK6.out.block f2 HI3.out.flt (by omega) (by omega)) (HK6.out.block g2 HI3.out.glt (by omega) (by omega))
  exact ⟨f2, g2, cloneF fl cap, rfl, ⟨hI6, HR6.out.cap cap, HP3.out.u, HP3.out.d.trans (HK6.out.toS.below HP3.out.le (fun i e => by rcases e with e | e <;> omega)), by have := HP.out.le; omega, HP3.out.bq⟩, (KeepS.of_below _ HV3.out).trans (HK6.out.toS.mono (fun i e => by rcases e with e | e; exact .inl e; exact .inr (.inl e))), rfl⟩
end Go.Proofs.Ytandhpnpodkemaa.M
end

section
/- step, every kind. -/
set_option linter.unusedVariables false
namespace Go.Proofs.Ytandhpnpodkemaa.M
open Go.RowKit Go.Proofs.YtandhpnpodkemaaW.PrintWords
theorem step_is {B : Nat} {w0 w : World} {f g q ob wb : Nat} {fl : Fl} (h : Pr B w0 w f g q ob wb fl) (o : OpD) (A : Option Addr) (c : Nat) (hB : Kd.F (Kd.int .u8) w (fun k => k < B) A o.B.length o.B) (hat : o.At ≤ 9223372036854775807) :
    Calls Try.prog 27 #[.pointer (some ⟨f, 0, none⟩), .pointer (some ⟨q, 0, none⟩), .agg #[.int .i64 o.Do, .int .i64 o.Block, .int .i64 o.Page, .int .i64 o.At, .int .i64 o.Keep, .slice A o.B.length c]] w fun e w' => StepP B w0 w f g q ob wb fl.n e w' := by
  by_cases h0 : o.Do = 0
  · rw [h0]; exact step_prog h o A c hB
  by_cases h1 : o.Do = 1
  · rw [h1]; exact step_read h o A c
  by_cases h2 : o.Do = 2
  · rw [h2]; exact step_erase h o A c
  by_cases h3 : o.Do = 3
  · rw [h3]; exact step_fuse h o A c hat
  by_cases h4 : o.Do = 4
  · rw [h4]; exact step_crash h o A c
  by_cases h5 : o.Do = 5
  · rw [h5]; exact step_restart h o A c
  by_cases h6 : o.Do = 6
  · rw [h6]; exact step_spoil h o A c
  exact step_clone h o A c hB (fun k hk0 hk7 e => by
    have : k = 0 ∨ k = 1 ∨ k = 2 ∨ k = 3 ∨ k = 4 ∨ k = 5 ∨ k = 6 := by omega
    rcases this with r | r | r | r | r | r | r <;> subst r <;> contradiction)
end Go.Proofs.Ytandhpnpodkemaa.M
end

section
/- The flash's Used, told as the reference's. -/
set_option linter.unusedVariables false
namespace Go.Proofs.Ytandhpnpodkemaa.M
open Go.RowKit Go.Proofs.YtandhpnpodkemaaW.PrintWords
theorem usedF_is {w : World} {f g : Nat} {fl : Fl} (h : IsF w f g fl) (b : Int) : Calls Try.prog 22 #[.pointer (some ⟨f, 0, none⟩), .int .i64 b] w fun e w' => e = .returned (.int .i64 (usedR fl b)) ∧ Below w.heap.size w w' := by
  have h1 := used_any (w := w) (v := .pointer (some ⟨f, 0, none⟩)) rfl b (usedL fl.c (fl.n * 16)) (by have := usedL_len fl.c (fl.n * 16); have := h.n2; omega) (fun w1 hb => all_is (h.below hb))
  rw [used_eq] at h1
  exact h1
end Go.Proofs.Ytandhpnpodkemaa.M
end

section
/- '==' of two arrays [2]int. -/
set_option linter.unusedVariables false
set_option linter.unusedSimpArgs false
set_option maxRecDepth 100000
namespace Go.Proofs.Ytandhpnpodkemaa.M
open Go.RowKit
theorem run_eq2 (d : Nat) (w : World) (a b x y : Int) : (Op.equalIn (d + 2) 34 (.agg #[.int .i64 a, .int .i64 b]) (.agg #[.int .i64 x, .int .i64 y])).run Try.prog w = .ok (a == x && b == y) w := by
  obtain ⟨i, hi, _⟩ := info_parts (show (Try.prog.info? 3).map (fun i => (i.zero, i.size, i.bytes)) = some (some (.int .i64 0), 1, 8) by kernel_rfl)
  have hc : Try.prog.cellsOf 3 = 1 := by kernel_rfl
  rw [run_equalIn_array w (d + 1) _ _ Try.underlying34 hi]
  simp [Op.eqItems, List.range_succ, go_sem, hc]
  by_cases h1 : a = x <;> by_cases h2 : b = y <;> simp [h1, h2]
end Go.Proofs.Ytandhpnpodkemaa.M
end

section
/- told: are just these pages told? -/
set_option linter.unusedVariables false
set_option linter.unusedSimpArgs false
set_option maxRecDepth 100000
namespace Go.Proofs.Ytandhpnpodkemaa.M
open Go.RowKit Go.Shelf Go.Proofs.YtandhpnpodkemaaW.PrintWords
attribute [local go_sem] Oper.semAt_some
theorem told_same {w : World} (B lo : Nat) (xs : List (Int × Int)) (hxl : xs.length ≤ 1000000) (hs : IsSeq w lo B xs) (hlo : lo ≤ B) (A2 : Option Addr) (c2 : Nat) (hy : Kd.F pairK w (fun i => i < w.heap.size) A2 xs.length xs) :
    Calls Try.prog 23 #[.func (.func 48) #[] #[.pointer (some ⟨B, 0, none⟩)], .slice A2 xs.length c2] w fun e w' => e = .returned (.bool true) ∧ Below w.heap.size w w' := by
  obtain ⟨A, cc, hcl, hF⟩ := hs
  have hBlt := World.block_lt_of_cell? _ _ hcl
  have hB0 : Below w.heap.size w (((w.alloc (.cells #[.slice A2 xs.length c2] 68)).alloc (.cells #[.bool false] 4)).alloc (.cells #[.int .i64 0] 3)) := (((Below.refl _ w).alloc (Nat.le_refl _) _).alloc (by simp) _).alloc (by simp; omega) _
  have bW := ((Boxed.new w 68 (.slice A2 xs.length c2)).alloc (.cells #[.bool false] 4)).alloc (.cells #[.int .i64 0] 3)
  have bR := (Boxed.new (w.alloc (.cells #[.slice A2 xs.length c2] 68)) 4 (.bool false)).alloc (.cells #[.int .i64 0] 3)
  have bN := Boxed.new ((w.alloc (.cells #[.slice A2 xs.length c2] 68)).alloc (.cells #[.bool false] 4)) 3 (.int .i64 0)
  obtain ⟨w2, hw2⟩ : ∃ w2, ((w.alloc (.cells #[.slice A2 xs.length c2] 68)).alloc (.cells #[.bool false] 4)).alloc (.cells #[.int .i64 0] 3) = w2 := ⟨_, rfl⟩
  have hs2 : w2.heap.size = w.heap.size + 3 := by rw [← hw2]; simp
  rw [World.size_alloc] at bR
  rw [World.size_alloc, World.size_alloc] at bN
  rw [hw2] at hB0 bW bR bN
  have HW2 := Lib.hid hw2; have HS2 := Lib.hid hs2; have HB0 := Lib.hid hB0
  have HCL := Lib.hid ((hB0.cell (p := ⟨B, 0, none⟩) hBlt).trans hcl); have HF := Lib.hid (Kd.F_mono (Kd.F_below (Kd.F_bound hF) hB0) (fun i hi => (⟨hi.1.1, hi.1.2⟩ : lo ≤ i ∧ i < w.heap.size))); have HY := Lib.hid (Kd.F_below hy hB0)
  have HW := Lib.hid bW.cell; have HR := Lib.hid (And.intro bR.cell bR.frozen); have HN := Lib.hid (And.intro bN.cell bN.frozen)
  refine (callsIn_wide (n := 4)).1 ?_
  refine callsIn_of_wp_marks Try.func23 rfl trivial ?_ rfl
  simp only [Try.ntmps23, List.size_toArray, List.length_cons, List.length_nil, Nat.reduceAdd, Nat.reduceSub, Array.replicate_succ, Array.replicate_zero, List.push_toArray, List.append_toArray, List.nil_append, List.cons_append]
  have HBL := Lib.hid hBlt
  clear hw2 hs2 hB0 hcl hF bW bR bN hy hBlt
  gi_wp2_with fail
  rw [HW2.out]
  refine wpIn_rangeFunc_ownG (w := w2) rfl (by omega) (gf := 48) (lb := #[.pointer (some ⟨B, 0, none⟩)]) rfl trivial (enters_of Try.func48 (by kernel_rfl) rfl)
    (all1_stops Fence.wide (4 - 1) trivial rfl (by omega) B (fun i => lo ≤ i ∧ i < w.heap.size) ⟨hlo, HBL.out⟩ A cc xs w2 (fun i hi => by have := HS2.out; omega) HCL.out HF.out) (fun h k => h.trans k) (keepT_b (fun i hi => by have := HS2.out; omega)) (Below.refl _ _) (fun _ => rfl)
    (fun pre W => (pre <+: xs ∧ W.cell? ⟨w.heap.size + 1 + 1, 0, none⟩ = some (.int .i64 pre.length) ∧ W.frozen? ⟨w.heap.size + 1 + 1, 0, none⟩ = false ∧ W.cell? ⟨w.heap.size, 0, none⟩ = some (.slice A2 xs.length c2) ∧ W.cell? ⟨w.heap.size + 1, 0, none⟩ = some (.bool false) ∧ W.frozen? ⟨w.heap.size + 1, 0, none⟩ = false) ∧ KeepS (fun i => i = w.heap.size + 1 + 1) w2 W)
    (fun c pre W => ¬ pre <+: xs)
    (OwnFrom.and (Own.from (fun s A B row hs hg hr => ⟨hs.1, cell_kept hs.2.1 hg hr, (frozen_kept hs.2.1 hg hr).trans hs.2.2.1, cell_kept hs.2.2.2.1 hg hr, cell_kept hs.2.2.2.2.1 hg hr, (frozen_kept hs.2.2.2.2.1 hg hr).trans hs.2.2.2.2.2⟩) _) (ownFrom_keepS _ _))
    (fun _ _ _ _ _ hs _ _ => hs)
    ⟨⟨List.nil_prefix, HN.out.1, HN.out.2, HW.out, HR.out.1, HR.out.2⟩, KeepS.refl _ _⟩
    (fun x => { tmps := #[.func (.func 48) #[] #[.pointer (some ⟨B, 0, none⟩)], .slice A2 xs.length c2, undef, .pointer (some ⟨w.heap.size, 0, none⟩), .pointer (some ⟨w.heap.size + 1, 0, none⟩), .pointer (some ⟨w.heap.size + 1 + 1, 0, none⟩), .int .i64 x.1, .int .i64 x.2, .func (.func 48) #[] #[.pointer (some ⟨B, 0, none⟩)], .int .i64 x.1, .int .i64 x.2, undef, undef, undef, undef, undef, undef, undef, undef, undef, undef, undef, undef, undef, undef, undef, undef, undef, undef, undef, undef], defers := [] }) ?assign ?body ?done ?stop
  case assign =>
    intro l x W K hK
    dsimp only [encP]
    gi_wp2
    exact hK
  case body =>
    rintro l pre x W ⟨⟨hp, hc, hf, hw, hr, hrf⟩, hK⟩ hlen
    have HK := Lib.hid hK; have HP := Lib.hid hp
    obtain ⟨y, hy⟩ : ∃ y, xs[pre.length]? = some y := ⟨_, List.getElem?_eq_getElem hlen⟩
    obtain ⟨ad, rfl, hy0, hy1⟩ := pair_get (Kd.F_now (HK.out.foot HY.out (fun i hi => by have := HS2.out; omega))) hy
    have HYY := Lib.hid hy
    have hge : decide (xs.length ≤ pre.length) = false := decide_eq_false (by omega)
    clear hK hp hy
    by_cases hx : x = y
    · subst hx
      have hq : ∀ W : World, (Op.equalIn 10000 34 (.agg #[.int .i64 x.1, .int .i64 x.2]) (.agg #[.int .i64 x.1, .int .i64 x.2])).run Try.prog W = .ok true W := fun W => by
        have := run_eq2 9998 W x.1 x.2 x.1 x.2
        simpa using this
      gi_wp2
      refine ⟨(KeepsOthers.setCell _ _ _).from _, fun i hi _ => Below.heap_setCell W ⟨w.heap.size + 1 + 1, 0, none⟩ _ i (by show i ≠ w.heap.size + 1 + 1; omega), ⟨?_, ?_, by rw [World.frozen?_setCell]; exact hf, ?_, ?_, by rw [World.frozen?_setCell]; exact hrf⟩, HK.out.set (.inl rfl) _⟩
      · rw [List.prefix_iff_eq_take.1 HP.out, take_snoc' HYY.out]
        exact List.take_prefix _ _
      · rw [List.length_append]; exact World.cell?_setCell_same' _ _ _ (by rw [hc]; rfl)
      · rw [World.cell?_setCell_other _ _ _ _ (by simp)]; exact hw
      · rw [World.cell?_setCell_other _ _ _ _ (by simp)]; exact hr
    · have hq : ∀ W : World, (Op.equalIn 10000 34 (.agg #[.int .i64 y.1, .int .i64 y.2]) (.agg #[.int .i64 x.1, .int .i64 x.2])).run Try.prog W = .ok false W := fun W => by
        have := run_eq2 9998 W y.1 y.2 x.1 x.2
        rw [this]
        congr 1
        have : ¬ (y.1 = x.1 ∧ y.2 = x.2) := fun e => hx (Prod.ext e.1.symm e.2.symm)
        simp only [Bool.and_eq_false_iff, beq_eq_false_iff_ne]
        by_cases e1 : y.1 = x.1
        · exact .inr (fun e2 => this ⟨e1, e2⟩)
        · exact .inl e1
      have HNP := Lib.hid (show ¬ pre ++ [x] <+: xs from fun h => by
        have h1 := List.prefix_iff_eq_take.1 h
        rw [List.length_append, List.length_singleton, ← take_snoc' HYY.out] at h1
        have h2 := List.append_inj_right' h1 rfl
        exact hx (by simpa using h2))
      clear hx
      gi_wp2
      exact ⟨(KeepsOthers.setCell _ _ _).from _, HNP.out⟩
  case done =>
    rintro D ys W hD rfl ⟨⟨hp, hc, hf, hw, hr, hrf⟩, hK⟩ hKD
    have HK := Lib.hid hK
    clear hK hp
    gi_wp2
    have hK' := (KeepsOthers.setCell W ⟨w.heap.size + 1, 0, none⟩ (.bool true)).same D _ hKD rfl
    refine ⟨by simp, .inl ⟨_, _, rfl, run_takeDeferred hK', ?_⟩⟩
    have hc5 := cell_kept (World.cell?_setCell_same' W ⟨w.heap.size + 1, 0, none⟩ (.bool true) (by rw [hr]; rfl)) (grownBy_putObj' _ D (.deferred none)) (fun r e => by cases e; exact ⟨_, hK', rfl⟩)
    refine ⟨.bool true, ?_, rfl, ?_⟩
    · simp [results, Try.f23, go_sem, hc5]
    · have h1 : Below w.heap.size w w2 := HB0.out
      have h2 := h1.trans (HK.out.below (B := w.heap.size) h1.size (by rintro i rfl; omega))
      exact (h2.setCell (p := ⟨w.heap.size + 1, 0, none⟩) (by show w.heap.size ≤ w.heap.size + 1; omega) _).trans (belowK_b (w := w) (Nat.le_refl _) _ D _ _ (by have := h1.size; omega) hK' rfl rfl)
  case stop =>
    rintro D c pre W hD hp h hKD
    exact absurd hp h
end Go.Proofs.Ytandhpnpodkemaa.M
end

section
/- FlashDoes: the walk. -/
set_option linter.unusedVariables false
set_option linter.unusedSimpArgs false
set_option maxRecDepth 100000
attribute [local irreducible] Go.wpStill
namespace Go.Proofs.Ytandhpnpodkemaa.M
open Go.RowKit Go.Proofs.YtandhpnpodkemaaW.PrintWords Go.Proofs.YtandhpnpodkemaaW.PrintLast
theorem i64_le {x : Int} (h : (Lit.int .i64 x).wf = true) : x ≤ 9223372036854775807 := by
  simp only [Lit.wf, Bool.and_eq_true, decide_eq_true_eq] at h
  have e2 : IntKind.i64.max = 9223372036854775807 := rfl
  omega
theorem step_keep {B : Nat} {w0 w : World} {f g q ob wb bx : Nat} {fl : Fl} {x : Obj} (h : Pr B w0 w f g q ob wb fl) (o : OpD) (A : Option Addr) (c : Nat) (hB : Kd.F (Kd.int .u8) w (fun k => k < B) A o.B.length o.B) (hat : o.At ≤ 9223372036854775807) (hx : w.heap[bx]? = some x) (hne : f < bx ∧ g < bx ∧ q < bx ∧ ob < bx ∧ wb < bx) :
    Calls Try.prog 27 #[.pointer (some ⟨f, 0, none⟩), .pointer (some ⟨q, 0, none⟩), .agg #[.int .i64 o.Do, .int .i64 o.Block, .int .i64 o.Page, .int .i64 o.At, .int .i64 o.Keep, .slice A o.B.length c]] w fun e w' => ∃ f' g' fl', e = .returned (.tuple #[.pointer (some ⟨f', 0, none⟩), .bool true]) ∧ Pr B w0 w' f' g' q ob wb fl' ∧ fl'.n = fl.n ∧ w'.heap[bx]? = some x := by
  refine (step_is h o A c hB hat).mono ?_
  rintro e w' ⟨f', g', fl', he, hp, hk, hn⟩
  exact ⟨f', g', fl', he, hp, hn, (hk.block bx (blk_lt hx) (by omega)).trans hx⟩
theorem isSeq_below {w w' : World} {lo B : Nat} {xs : List (Int × Int)} (h : IsSeq w lo B xs) (hb : Below w.heap.size w w') : IsSeq w' lo B xs := by
  obtain ⟨A, cc, hc, hF⟩ := h
  exact ⟨A, cc, (hb.cell (World.block_lt_of_cell? _ _ hc)).trans hc, Kd.F_mono (Kd.F_below (Kd.F_bound hF) hb) (fun i hi => ⟨hi.1.1, Nat.lt_of_lt_of_le hi.1.2 hb.size⟩)⟩
def Dz (w : World) (q ob wb n : Nat) (v b : Value) (W : World) : Prop := ∃ f g fl, v = .pointer (some ⟨f, 0, none⟩) ∧ b = .bool true ∧ Pr w.heap.size w W f g q ob wb fl ∧ fl.n = n
set_option maxHeartbeats 8000000 in
theorem does_walk (w : World) (r : Int) (A0 : Option Addr) (c0 : Nat) (l : List OpD) (hF : Kd.F opK w (fun k => k < w.heap.size) A0 l.length l) (hok : ∀ o ∈ l, okOp o) :
    Calls Try.prog 6 #[.int .i64 r, .slice A0 l.length c0] w fun e w' => e = .returned (.bool true) ∧ Below w.heap.size w w' := by
  have HF := Lib.hid hF; have HOK := Lib.hid hok
  have hlm : l.length ≤ 9223372036854775807 := Kd.F_max hF
  clear hF hok
  by_cases hr : r < 1 ∨ 1024 < r
  · have HR := Lib.hid hr
    clear hr
    go_enter Try.func6, Try.ntmps6
    go_wp2_with fail
    refine (pair_bad r w HR.out).mono ?_
    rintro e w1 ⟨rfl, rfl⟩
    go_wp2_with fail
    refine (begun_is _).mono ?_
    rintro e w2 ⟨rfl, hb⟩
    have HB := Lib.hid hb
    clear hb
    go_wp2_with fail
    refine (begun_is _).mono ?_
    rintro e w3 ⟨rfl, hb⟩
    have HB3 := Lib.hid (HB.out.trans (hb.mono HB.out.size))
    clear hb
    go_wp2_with fail
    go_ret
    exact ⟨rfl, HB3.out⟩
  obtain ⟨n, rfl⟩ : ∃ n : Nat, r = (n : Int) := ⟨r.toNat, by omega⟩
  have HN := Lib.hid (show 1 ≤ n ∧ n ≤ 1024 by omega)
  clear hr
  go_enter Try.func6, Try.ntmps6
  go_wp2_with fail
  refine (pair_is n w HN.out.1 HN.out.2).mono ?_
  rintro e w1 ⟨f, g, q, ob, wb, rfl, hI, hR, hb, hfg, hq3⟩
  have HP1 := Lib.hid (show Pr w.heap.size w w1 f g q ob wb (newF n) from ⟨hI, hR, ⟨Int.le_refl _, by show (0 : Int) ≤ _; decide⟩, hb, hfg, hq3⟩)
  clear hI hR hb hfg hq3
  go_wp2_with fail
  refine (begun_is _).mono ?_
  rintro e w2 ⟨rfl, hb⟩
  have HP2 := Lib.hid (HP1.out.below hb)
  clear hb HP1
  go_wp2_with fail
  go_loopw [5, 7, 32] (fun v b i wr => ∃ j : Nat, i = .int .i64 (j : Int) ∧ j ≤ l.length ∧ Dz w q ob wb n v b wr) (fun _ _ i _ => l.length - (intOf i).toNat)
  case atStart => exact ⟨0, rfl, Nat.zero_le _, f, g, newF n, rfl, rfl, HP2.out, rfl⟩
  case round =>
    obtain ⟨j, rfl, hj, f, g, fl, rfl, rfl, hP, hn⟩ := hrel
    have HPr := Lib.hid hP; have HNr := Lib.hid hn
    clear hP hn HP2
    by_cases hlt : j < l.length
    · obtain ⟨o, ho⟩ : ∃ o, l[j]? = some o := ⟨_, List.getElem?_eq_getElem hlt⟩
      obtain ⟨ad, Bo, cb, hAd, ⟨x0, x1, x2, x3, x4, x5⟩, hBF, hcb⟩ := op_get (Kd.F_step HF.out (fun k hk hl => HPr.out.d.block k hk)) ho
      have HOO := Lib.hid (HOK.out o (List.mem_of_getElem? ho))
      have HBF := Lib.hid hBF
      subst hAd
      have HLT := Lib.hid hlt
      have q1 : decide (j < l.length) = true := decide_eq_true hlt
      clear ho hBF
      go_upto_region 7 with fail
      have hb1 := (Below.refl wr.heap.size wr).alloc (Nat.le_refl _) (.cells #[.int .i64 o.Do, .int .i64 o.Block, .int .i64 o.Page, .int .i64 o.At, .int .i64 o.Keep, .slice Bo o.B.length cb] 31)
      have HX4 := Lib.hid (heap_alloc_new wr (.cells #[.int .i64 o.Do, .int .i64 o.Block, .int .i64 o.Page, .int .i64 o.At, .int .i64 o.Keep, .slice Bo o.B.length cb] 31))
      have HP4 := Lib.hid (HPr.out.below hb1); have HB4 := Lib.hid (Kd.F_below HBF.out hb1)
      obtain ⟨bx, hbx⟩ : ∃ bx, wr.heap.size = bx := ⟨_, rfl⟩
      have HBX := Lib.hid (show f < bx ∧ g < bx ∧ q < bx ∧ ob < bx ∧ wb < bx by rw [← hbx]; exact ⟨HPr.out.s.flt, HPr.out.s.glt, HPr.out.r.qlt, HPr.out.r.olt, HPr.out.r.wlt⟩)
      obtain ⟨w4, hw4⟩ : ∃ V, wr.alloc (.cells #[.int .i64 o.Do, .int .i64 o.Block, .int .i64 o.Page, .int .i64 o.At, .int .i64 o.Keep, .slice Bo o.B.length cb] 31) = V := ⟨_, rfl⟩
      rw [hw4] at HX4 HP4 HB4 ⊢
      rw [hbx] at HX4 ⊢
      clear hw4 hbx hb1 x0 x1 x2 x3 x4 x5 HPr HBF
      have y0 : w4.cell? ⟨bx, 0, none⟩ = some (.int .i64 o.Do) := (blk_cell HX4.out 0).trans rfl
      have y1 : w4.cell? ⟨bx, 1, none⟩ = some (.int .i64 o.Block) := (blk_cell HX4.out 1).trans rfl
      have y2 : w4.cell? ⟨bx, 2, none⟩ = some (.int .i64 o.Page) := (blk_cell HX4.out 2).trans rfl
      have y3 : w4.cell? ⟨bx, 3, none⟩ = some (.int .i64 o.At) := (blk_cell HX4.out 3).trans rfl
      have y4 : w4.cell? ⟨bx, 4, none⟩ = some (.int .i64 o.Keep) := (blk_cell HX4.out 4).trans rfl
      have y5 : w4.cell? ⟨bx, 5, none⟩ = some (.slice Bo o.B.length cb) := (blk_cell HX4.out 5).trans rfl
      go_wp2_with fail
      refine (step_keep HP4.out o Bo cb HB4.out (i64_le HOO.out.2.2.2.1) HX4.out HBX.out).mono ?_
      rintro e w5 ⟨f', g', fl', rfl, hP, hn, hx⟩
      have HP5 := Lib.hid hP; have HN5 := Lib.hid (hn.trans HNr.out); have HX5 := Lib.hid hx
      clear hP hn hx y0 y1 y2 y3 y4 y5
      obtain ⟨zw, hzw⟩ : ∃ z, wearV fl' o.Block = z := ⟨_, rfl⟩
      obtain ⟨zu, hzu⟩ : ∃ z, usedR fl' o.Block = z := ⟨_, rfl⟩
      obtain ⟨dn, hdn⟩ : ∃ z, fl'.down = z := ⟨_, rfl⟩
      have HZW := Lib.hid hzw; have HZU := Lib.hid hzu; have HDN := Lib.hid hdn
      have HP6 := Lib.hid (HP5.out.below (Below.refl _ w5).drew)
      have HX6 := Lib.hid (show w5.drew.heap[bx]? = _ from HX5.out)
      clear hzw hzu hdn
      have q1 : (zw == zw) = true := by simp
      have q2 : (zu == zu) = true := by simp
      have q3 : (dn == dn) = true := by simp
      have z1 : w5.cell? ⟨bx, 1, none⟩ = some (.int .i64 o.Block) := (blk_cell HX5.out 1).trans rfl
      obtain ⟨kr4, co4, ⟨_, _, _, _, z4⟩, _, _⟩ := HP5.out.r.cells
      rw [HDN.out] at z4
      go_wp2_with fail
      go_region_held3 (fun w' => w'.cell? ⟨bx, 1, none⟩ = some (.int .i64 o.Block) ∧ w'.cell? ⟨q, 4, none⟩ = some (.bool dn)) (go_keep) (first
        | (go_at_call 12; refine (down_is HP6.out.s).mono ?_; rintro e w6 ⟨rfl, rfl⟩; rw [HDN.out])
        | (go_at_call 21; refine (wear_is HP6.out.s o.Block).mono ?_; rintro e w6 ⟨rfl, rfl⟩; rw [HZW.out])
        | (go_at_call 28; refine (rwear_is HP6.out.r o.Block).mono ?_; rintro e w6 ⟨rfl, rfl⟩; rw [HZW.out])
        | (go_at_call 22; refine (usedF_is HP6.out.s o.Block).mono ?_; rintro e w6 ⟨rfl, hb⟩; rw [HZU.out]; have HP7 := Lib.hid (HP6.out.below hb); have HX7 := Lib.hid ((hb.block bx (blk_lt HX6.out)).trans HX6.out); have v1 : w6.cell? ⟨bx, 1, none⟩ = some (.int .i64 o.Block) := (blk_cell HX7.out 1).trans rfl; obtain ⟨kr5, co5, ⟨_, _, _, _, v4⟩, _, _⟩ := HP7.out.r.cells; rw [HDN.out] at v4; clear hb)
        | (go_at_call 29; refine (rused_is HP7.out.r o.Block).mono ?_; rintro e w7 ⟨rfl, rfl⟩; rw [HZU.out]))
      go_wp2_with fail
      go_roundw
      case rel => exact ⟨j + 1, by go_num, by have := HLT.out; omega, f', g', fl', rfl, rfl, HP7.out, HN5.out⟩
      case measure => simp [intOf]; have := HLT.out; omega
    · have q1 : decide (j < l.length) = false := decide_eq_false hlt
      obtain ⟨U, hU⟩ : ∃ U, usedL fl.c (fl.n * 16) = U := ⟨_, rfl⟩
      have hUl : U.length ≤ 1000000 := by rw [← hU]; have := usedL_len fl.c (fl.n * 16); have := HPr.out.s.n2; omega
      obtain ⟨nn, hnn⟩ : ∃ nn, fl.n = nn := ⟨_, rfl⟩
      have HU := Lib.hid hU; have HNN := Lib.hid hnn; have HUL := Lib.hid hUl
      have HP6 := Lib.hid (HPr.out.below (Below.refl _ wr).drew)
      obtain ⟨kr4, co4, ⟨z0, _, _, _, _⟩, _, _⟩ := HPr.out.r.cells
      rw [HNN.out] at z0
      have q2 : ((nn : Int) == (nn : Int)) = true := by simp
      clear hU hnn hUl hlt
      go_wp2_with fail
      go_region_held3 (fun w' => w'.cell? ⟨q, 0, none⟩ = some (.slice (some ⟨ob, 0, none⟩) nn co4)) (go_keep) (first
        | (go_at_call 20; refine (blocks_is HP6.out.s).mono ?_; rintro e w6 ⟨rfl, rfl⟩; rw [HNN.out])
        | (go_at_call 24; refine (all_is HP6.out.s).mono ?_; rintro e w6 ⟨rfl, hs, hb⟩; rw [HU.out] at hs; have HS := Lib.hid hs; have HP7 := Lib.hid (HP6.out.below hb); have v0 : w6.cell? ⟨q, 0, none⟩ = some (.slice (some ⟨ob, 0, none⟩) nn co4) := (hb.cell (p := ⟨q, 0, none⟩) HP6.out.r.qlt).trans z0; clear hs hb)
        | (go_at_call 30; refine (rall_is HP7.out.r).mono ?_; rintro e w7 ⟨A7, c7, rfl, hF, hb⟩; rw [HU.out] at hF; rw [HU.out]; have HF7 := Lib.hid hF; have HP8 := Lib.hid (HP7.out.below hb); have HB7 := Lib.hid hb; have u0 : w7.cell? ⟨q, 0, none⟩ = some (.slice (some ⟨ob, 0, none⟩) nn co4) := (hb.cell (p := ⟨q, 0, none⟩) HP7.out.r.qlt).trans v0; clear hF hb)
        | (go_at_call 23; refine (told_same wr.heap.size wr.heap.size U HUL.out (isSeq_below HS.out HB7.out) (Nat.le_refl _) A7 c7 HF7.out).mono ?_; rintro e w8 ⟨rfl, hb⟩; have HP9 := Lib.hid (HP8.out.below hb); have t0 : w8.cell? ⟨q, 0, none⟩ = some (.slice (some ⟨ob, 0, none⟩) nn co4) := (hb.cell (p := ⟨q, 0, none⟩) HP8.out.r.qlt).trans u0; clear hb))
      go_wp2_with fail
      go_ret
      exact ⟨rfl, HP9.out.d⟩
end Go.Proofs.Ytandhpnpodkemaa.M
end
