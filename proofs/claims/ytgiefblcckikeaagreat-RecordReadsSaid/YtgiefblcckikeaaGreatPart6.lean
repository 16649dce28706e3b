/- RecordReadsSaid: contracts of the functions that the law goes through, put together in build order (part 7 of 7). -/
import Derived.Test.YtgiefblcckikeaaGreatPart5
import Derived.Laws.Tables
set_option linter.unusedVariables false
set_option linter.unusedSimpArgs false
section
/- The reference's Reader: a message, kinds 3, 5, 6 (printed by genrdq04.py). -/
set_option maxRecDepth 100000
attribute [local irreducible] Go.wpStill
namespace Go.Proofs.YtgiefblcckikeaaGreat.M
open Go.RowKit Go.Proofs.YtgiefblcckikeaaGreatW.PrintWords Go.Proofs.YtgiefblcckikeaaGreatW.PrintLast Go.Proofs.YtgiefblcckikeaaGreatW.PrintMore Go.Proofs.YtgiefblcckikeaaGreat.G
set_option maxHeartbeats 4000000 in
theorem rdMsg3 {B : List Int} {w0 w : World} {x : Nat} {s : EyeS} (hI : IsRd B w0 w x s) (hB : Below w0.heap.size w0 w) (hok : okS s) (hk : (rSmall s).1 = 3) (he : (rSmall s).2.e = 0) :
  Calls Tryz.prog 62 #[.pointer (some ⟨x, 0, none⟩)] w fun e w' => MsP (fun W s => IsRd B w0 W x s) w0 w x (rMsg s).1 (rMsg s).2 e w' := by
 have HT1 := Lib.hid ((Fo.start (I := fun W s => IsRd B w0 W x s) (T := 34) (zs := #[.int .i64 0, .int .i64 0, .int .i64 0, .int .i64 0, .int .i64 0, .int .i64 0, .int .i64 0, .bool false, .slice none 0 0, .int .i64 0, .int .i64 0, .int .i64 0, .slice none 0 0, .int .i64 0, .int .i64 0, .int .i64 0, .slice none 0 0]) hI hB hI.lt hI.ge (fun _ _ _ e h => h.at e)).lay #[.int .i64 0, .int .i64 0, .int .i64 0, .int .i64 0, .int .i64 0, .int .i64 0, .int .i64 0, .bool false, .slice none 0 0, .int .i64 0, .int .i64 0, .int .i64 0, .slice none 0 0, .int .i64 0, .int .i64 0, .int .i64 0, .slice none 0 0])
 obtain ⟨s0, hs0⟩ : ∃ s0, (rSmall s).2 = s0 := ⟨_, rfl⟩
 have HN := Lib.hid (And.intro hk hs0)
 have HO0 := Lib.hid hok
 have ho1 := okS_rsmall hok
 rw [hs0] at ho1 he
 obtain ⟨s1, hs1⟩ : ∃ s1, s0 = s1 := ⟨_, rfl⟩
 rw [hs1] at hs0 ho1 he HN
 have HF0 := Lib.hid (show rMsg s = mBody rSmall rEntry (eList rTr) 3 s1 by
  have hm : rMk s = s1 := by unfold rMk; rw [hk, hs0]; exact eWrong_false _
  unfold rMsg
  rw [hm, hk])
 have HQ := Lib.hid (show (s1.e == 0) = true by rw [he]; rfl)
 clear hI hB hok hk hs0 hs1 he
 obtain ⟨v1, hv1⟩ : ∃ v, (rSmall s1).1 = v := ⟨_, rfl⟩
 obtain ⟨s2, hs2⟩ : ∃ t, (rSmall s1).2 = t := ⟨_, rfl⟩
 have ho2 := okS_rsmall ho1
 rw [hs2] at ho2
 have HO1 := Lib.hid ho1; have HE1 := Lib.hid (And.intro hv1 hs2)
 obtain ⟨v2, hv2⟩ : ∃ v, (rSmall s2).1 = v := ⟨_, rfl⟩
 obtain ⟨s3, hs3⟩ : ∃ t, (rSmall s2).2 = t := ⟨_, rfl⟩
 have ho3 := okS_rsmall ho2
 rw [hs3] at ho3
 have HO2 := Lib.hid ho2; have HE2 := Lib.hid (And.intro hv2 hs3)
 obtain ⟨v3, hv3⟩ : ∃ v, (eNum s3).1 = v := ⟨_, rfl⟩
 obtain ⟨s4, hs4⟩ : ∃ t, (eNum s3).2 = t := ⟨_, rfl⟩
 have ho4 := okS_num ho3
 rw [hs4] at ho4
 have HO3 := Lib.hid ho3; have HE3 := Lib.hid (And.intro hv3 hs4)
 obtain ⟨v4, hv4⟩ : ∃ v, (eNum s4).1 = v := ⟨_, rfl⟩
 obtain ⟨s5, hs5⟩ : ∃ t, (eNum s4).2 = t := ⟨_, rfl⟩
 have ho5 := okS_num ho4
 rw [hs5] at ho5
 have HO4 := Lib.hid ho4; have HE4 := Lib.hid (And.intro hv4 hs5)
 obtain ⟨v5, hv5⟩ : ∃ v, (eNum s5).1 = v := ⟨_, rfl⟩
 obtain ⟨s6, hs6⟩ : ∃ t, (eNum s5).2 = t := ⟨_, rfl⟩
 have ho6 := okS_num ho5
 rw [hs6] at ho6
 have HO5 := Lib.hid ho5; have HE5 := Lib.hid (And.intro hv5 hs6)
 obtain ⟨v6, hv6⟩ : ∃ v, (eNum s6).1 = v := ⟨_, rfl⟩
 obtain ⟨s7, hs7⟩ : ∃ t, (eNum s6).2 = t := ⟨_, rfl⟩
 have ho7 := okS_num ho6
 rw [hs7] at ho7
 have HO6 := Lib.hid ho6; have HE6 := Lib.hid (And.intro hv6 hs7)
 obtain ⟨v7, hv7⟩ : ∃ v, ((eList rTr) s7).1 = v := ⟨_, rfl⟩
 obtain ⟨s8, hs8⟩ : ∃ t, ((eList rTr) s7).2 = t := ⟨_, rfl⟩
 have ho8 := okS_rtrs ho7
 rw [hs8] at ho8
 have HO7 := Lib.hid ho7; have HE7 := Lib.hid (And.intro hv7 hs8)
 have HF := Lib.hid (show rMsg s = (⟨3, v1, v2, v3, v4, v5, v6, false, v7, zE, zP⟩, s8) by
  rw [HF0.out]
  unfold mBody
  rw [if_neg (by decide)]; rw [if_neg (by decide)]; rw [if_pos rfl]
  simp only [FM, PR, enOf, hv1, hs2, hv2, hs3, hv3, hs4, hv4, hs5, hv5, hs6, hv6, hs7, hv7, hs8])
 clear HF0 hv1 hs2 ho1 hv2 hs3 ho2 hv3 hs4 ho3 hv4 hs5 ho4 hv5 hs6 ho5 hv6 hs7 ho6 hv7 hs8 ho7 ho8
 go_enter Tryz.func62, Tryz.ntmps62
 go_upto_region 2 with fail
 obtain ⟨g, hg⟩ : ∃ g, (w.alloc (.cells #[.int .i64 0, .int .i64 0, .int .i64 0, .int .i64 0, .int .i64 0, .int .i64 0, .int .i64 0, .bool false, .slice none 0 0, .int .i64 0, .int .i64 0, .int .i64 0, .slice none 0 0, .int .i64 0, .int .i64 0, .int .i64 0, .slice none 0 0] 34)).heap.size = g := ⟨_, rfl⟩
 have hg' : w.heap.size + 1 = g := by rw [← hg]; simp
 obtain ⟨w1, hw1⟩ : ∃ W, (w.alloc (.cells #[.int .i64 0, .int .i64 0, .int .i64 0, .int .i64 0, .int .i64 0, .int .i64 0, .int .i64 0, .bool false, .slice none 0 0, .int .i64 0, .int .i64 0, .int .i64 0, .slice none 0 0, .int .i64 0, .int .i64 0, .int .i64 0, .slice none 0 0] 34)).alloc (.cells #[.int .i64 0, .int .i64 0, .int .i64 0, .int .i64 0, .int .i64 0, .int .i64 0, .int .i64 0, .bool false, .slice none 0 0, .int .i64 0, .int .i64 0, .int .i64 0, .slice none 0 0, .int .i64 0, .int .i64 0, .int .i64 0, .slice none 0 0] 34) = W := ⟨_, rfl⟩
 rw [hg, hw1] at HT1
 rw [hw1, hg']
 clear hg hw1 hg'
 go_wp2_with fail
 have h4 := rdSmall_is HT1.out.i HT1.out.d HO0.out
 rw [HN.out.1, HN.out.2] at h4
 refine h4.mono ?_
 rintro e w2 ⟨rfl, h1, h2, h3⟩
 have HT2 := Lib.hid (HT1.out.call h1 h2 h3)
 clear h1 h2 h3 h4 HT1 HN
 have d0 : w2.cell? ⟨g, 0, none⟩ = some (.int .i64 0) := (blk_cell HT2.out.y 0).trans rfl
 have z0 : w2.frozen? ⟨g, 0, none⟩ = false := blk_frozen HT2.out.y 0
 go_upto_region 3 with fail
 have hT : Fr _ w0 w x g 34 _ #[.int .i64 3, .int .i64 0, .int .i64 0, .int .i64 0, .int .i64 0, .int .i64 0, .int .i64 0, .bool false, .slice none 0 0, .int .i64 0, .int .i64 0, .int .i64 0, .slice none 0 0, .int .i64 0, .int .i64 0, .int .i64 0, .slice none 0 0] _ _ _ := HT2.out.put 0 (.int .i64 3)
 have HT3 := Lib.hid hT
 obtain ⟨w3, hw⟩ : ∃ W, w2.setCell ⟨g, 0, none⟩ (.int .i64 3) = W := ⟨_, rfl⟩
 rw [hw] at HT3 ⊢
 clear hT hw HT2 d0 z0
 have c2 : w3.cell? ⟨x, 2, none⟩ = some (.int .i64 s1.e) := by
  obtain ⟨A, c, j, g1, _⟩ := HT3.out.i
  simp [World.cell?, g1]
 have hq := HQ.out
 have d0 : w3.cell? ⟨g, 0, none⟩ = some (.int .i64 3) := (blk_cell HT3.out.y 0).trans rfl
 go_wp2_with fail
 clear c2 hq d0
 have h4 := rdSmall_is HT3.out.i HT3.out.d HO1.out
 rw [HE1.out.1, HE1.out.2] at h4
 refine h4.mono ?_
 rintro e w4 ⟨rfl, h1, h2, h3⟩
 have HT4 := Lib.hid (HT3.out.call h1 h2 h3)
 clear h1 h2 h3 h4 HT3
 have d1 : w4.cell? ⟨g, 1, none⟩ = some (.int .i64 0) := (blk_cell HT4.out.y 1).trans rfl
 have z1 : w4.frozen? ⟨g, 1, none⟩ = false := blk_frozen HT4.out.y 1
 have d0 : w4.cell? ⟨g, 0, none⟩ = some (.int .i64 3) := (blk_cell HT4.out.y 0).trans rfl
 have z0 : w4.frozen? ⟨g, 0, none⟩ = false := blk_frozen HT4.out.y 0
 go_wp2_with fail
 have hT : Fr _ w0 w x g 34 _ #[.int .i64 3, .int .i64 v1, .int .i64 0, .int .i64 0, .int .i64 0, .int .i64 0, .int .i64 0, .bool false, .slice none 0 0, .int .i64 0, .int .i64 0, .int .i64 0, .slice none 0 0, .int .i64 0, .int .i64 0, .int .i64 0, .slice none 0 0] _ _ _ := (HT4.out.put 1 (.int .i64 v1))
 have HT5 := Lib.hid hT
 obtain ⟨w5, hw⟩ : ∃ W, (w4.setCell ⟨g, 1, none⟩ (.int .i64 v1)) = W := ⟨_, rfl⟩
 rw [hw] at HT5 ⊢
 clear hT hw HT4 d1 z1 d0 z0
 have h4 := rdSmall_is HT5.out.i HT5.out.d HO2.out
 rw [HE2.out.1, HE2.out.2] at h4
 refine h4.mono ?_
 rintro e w6 ⟨rfl, h1, h2, h3⟩
 have HT6 := Lib.hid (HT5.out.call h1 h2 h3)
 clear h1 h2 h3 h4 HT5
 have d2 : w6.cell? ⟨g, 2, none⟩ = some (.int .i64 0) := (blk_cell HT6.out.y 2).trans rfl
 have z2 : w6.frozen? ⟨g, 2, none⟩ = false := blk_frozen HT6.out.y 2
 have d0 : w6.cell? ⟨g, 0, none⟩ = some (.int .i64 3) := (blk_cell HT6.out.y 0).trans rfl
 have z0 : w6.frozen? ⟨g, 0, none⟩ = false := blk_frozen HT6.out.y 0
 go_wp2_with fail
 have hT : Fr _ w0 w x g 34 _ #[.int .i64 3, .int .i64 v1, .int .i64 v2, .int .i64 0, .int .i64 0, .int .i64 0, .int .i64 0, .bool false, .slice none 0 0, .int .i64 0, .int .i64 0, .int .i64 0, .slice none 0 0, .int .i64 0, .int .i64 0, .int .i64 0, .slice none 0 0] _ _ _ := (HT6.out.put 2 (.int .i64 v2))
 have HT7 := Lib.hid hT
 obtain ⟨w7, hw⟩ : ∃ W, (w6.setCell ⟨g, 2, none⟩ (.int .i64 v2)) = W := ⟨_, rfl⟩
 rw [hw] at HT7 ⊢
 clear hT hw HT6 d2 z2 d0 z0
 have h4 := rdNum_is HT7.out.i HT7.out.d HO3.out
 rw [HE3.out.1, HE3.out.2] at h4
 refine h4.mono ?_
 rintro e w8 ⟨rfl, h1, h2, h3⟩
 have HT8 := Lib.hid (HT7.out.call h1 h2 h3)
 clear h1 h2 h3 h4 HT7
 have d3 : w8.cell? ⟨g, 3, none⟩ = some (.int .i64 0) := (blk_cell HT8.out.y 3).trans rfl
 have z3 : w8.frozen? ⟨g, 3, none⟩ = false := blk_frozen HT8.out.y 3
 have d0 : w8.cell? ⟨g, 0, none⟩ = some (.int .i64 3) := (blk_cell HT8.out.y 0).trans rfl
 have z0 : w8.frozen? ⟨g, 0, none⟩ = false := blk_frozen HT8.out.y 0
 go_wp2_with fail
 have hT : Fr _ w0 w x g 34 _ #[.int .i64 3, .int .i64 v1, .int .i64 v2, .int .i64 v3, .int .i64 0, .int .i64 0, .int .i64 0, .bool false, .slice none 0 0, .int .i64 0, .int .i64 0, .int .i64 0, .slice none 0 0, .int .i64 0, .int .i64 0, .int .i64 0, .slice none 0 0] _ _ _ := (HT8.out.put 3 (.int .i64 v3))
 have HT9 := Lib.hid hT
 obtain ⟨w9, hw⟩ : ∃ W, (w8.setCell ⟨g, 3, none⟩ (.int .i64 v3)) = W := ⟨_, rfl⟩
 rw [hw] at HT9 ⊢
 clear hT hw HT8 d3 z3 d0 z0
 have h4 := rdNum_is HT9.out.i HT9.out.d HO4.out
 rw [HE4.out.1, HE4.out.2] at h4
 refine h4.mono ?_
 rintro e w10 ⟨rfl, h1, h2, h3⟩
 have HT10 := Lib.hid (HT9.out.call h1 h2 h3)
 clear h1 h2 h3 h4 HT9
 have d4 : w10.cell? ⟨g, 4, none⟩ = some (.int .i64 0) := (blk_cell HT10.out.y 4).trans rfl
 have z4 : w10.frozen? ⟨g, 4, none⟩ = false := blk_frozen HT10.out.y 4
 have d0 : w10.cell? ⟨g, 0, none⟩ = some (.int .i64 3) := (blk_cell HT10.out.y 0).trans rfl
 have z0 : w10.frozen? ⟨g, 0, none⟩ = false := blk_frozen HT10.out.y 0
 go_wp2_with fail
 have hT : Fr _ w0 w x g 34 _ #[.int .i64 3, .int .i64 v1, .int .i64 v2, .int .i64 v3, .int .i64 v4, .int .i64 0, .int .i64 0, .bool false, .slice none 0 0, .int .i64 0, .int .i64 0, .int .i64 0, .slice none 0 0, .int .i64 0, .int .i64 0, .int .i64 0, .slice none 0 0] _ _ _ := (HT10.out.put 4 (.int .i64 v4))
 have HT11 := Lib.hid hT
 obtain ⟨w11, hw⟩ : ∃ W, (w10.setCell ⟨g, 4, none⟩ (.int .i64 v4)) = W := ⟨_, rfl⟩
 rw [hw] at HT11 ⊢
 clear hT hw HT10 d4 z4 d0 z0
 have h4 := rdNum_is HT11.out.i HT11.out.d HO5.out
 rw [HE5.out.1, HE5.out.2] at h4
 refine h4.mono ?_
 rintro e w12 ⟨rfl, h1, h2, h3⟩
 have HT12 := Lib.hid (HT11.out.call h1 h2 h3)
 clear h1 h2 h3 h4 HT11
 have d5 : w12.cell? ⟨g, 5, none⟩ = some (.int .i64 0) := (blk_cell HT12.out.y 5).trans rfl
 have z5 : w12.frozen? ⟨g, 5, none⟩ = false := blk_frozen HT12.out.y 5
 have d0 : w12.cell? ⟨g, 0, none⟩ = some (.int .i64 3) := (blk_cell HT12.out.y 0).trans rfl
 have z0 : w12.frozen? ⟨g, 0, none⟩ = false := blk_frozen HT12.out.y 0
 go_wp2_with fail
 have hT : Fr _ w0 w x g 34 _ #[.int .i64 3, .int .i64 v1, .int .i64 v2, .int .i64 v3, .int .i64 v4, .int .i64 v5, .int .i64 0, .bool false, .slice none 0 0, .int .i64 0, .int .i64 0, .int .i64 0, .slice none 0 0, .int .i64 0, .int .i64 0, .int .i64 0, .slice none 0 0] _ _ _ := (HT12.out.put 5 (.int .i64 v5))
 have HT13 := Lib.hid hT
 obtain ⟨w13, hw⟩ : ∃ W, (w12.setCell ⟨g, 5, none⟩ (.int .i64 v5)) = W := ⟨_, rfl⟩
 rw [hw] at HT13 ⊢
 clear hT hw HT12 d5 z5 d0 z0
 have h4 := rdNum_is HT13.out.i HT13.out.d HO6.out
 rw [HE6.out.1, HE6.out.2] at h4
 refine h4.mono ?_
 rintro e w14 ⟨rfl, h1, h2, h3⟩
 have HT14 := Lib.hid (HT13.out.call h1 h2 h3)
 clear h1 h2 h3 h4 HT13
 have d6 : w14.cell? ⟨g, 6, none⟩ = some (.int .i64 0) := (blk_cell HT14.out.y 6).trans rfl
 have z6 : w14.frozen? ⟨g, 6, none⟩ = false := blk_frozen HT14.out.y 6
 have d0 : w14.cell? ⟨g, 0, none⟩ = some (.int .i64 3) := (blk_cell HT14.out.y 0).trans rfl
 have z0 : w14.frozen? ⟨g, 0, none⟩ = false := blk_frozen HT14.out.y 0
 go_wp2_with fail
 have hT : Fr _ w0 w x g 34 _ #[.int .i64 3, .int .i64 v1, .int .i64 v2, .int .i64 v3, .int .i64 v4, .int .i64 v5, .int .i64 v6, .bool false, .slice none 0 0, .int .i64 0, .int .i64 0, .int .i64 0, .slice none 0 0, .int .i64 0, .int .i64 0, .int .i64 0, .slice none 0 0] _ _ _ := (HT14.out.put 6 (.int .i64 v6))
 have HT15 := Lib.hid hT
 obtain ⟨w15, hw⟩ : ∃ W, (w14.setCell ⟨g, 6, none⟩ (.int .i64 v6)) = W := ⟨_, rfl⟩
 rw [hw] at HT15 ⊢
 clear hT hw HT14 d6 z6 d0 z0
 have h4 := rdList_is HT15.out.i HT15.out.d HO7.out
 rw [HE7.out.1, HE7.out.2] at h4
 refine h4.mono ?_
 rintro e w16 ⟨v_, rfl, hv, h1, h2, h3⟩
 obtain ⟨A8, c8, rfl⟩ := Kd.R_slice hv
 have HT16 := Lib.hid (HT15.out.callR h1 h2 h3 hv)
 have HLO16 := Lib.hid (show w15.heap.size ≤ w16.heap.size from h3.size)
 clear h1 h2 h3 h4 hv HT15
 have d8 : w16.cell? ⟨g, 8, none⟩ = some (.slice none 0 0) := (blk_cell HT16.out.y 8).trans rfl
 have z8 : w16.frozen? ⟨g, 8, none⟩ = false := blk_frozen HT16.out.y 8
 have d0 : w16.cell? ⟨g, 0, none⟩ = some (.int .i64 3) := (blk_cell HT16.out.y 0).trans rfl
 have z0 : w16.frozen? ⟨g, 0, none⟩ = false := blk_frozen HT16.out.y 0
 go_upto_region 28 with fail
 have hT : Fr _ w0 w x g 34 _ #[.int .i64 3, .int .i64 v1, .int .i64 v2, .int .i64 v3, .int .i64 v4, .int .i64 v5, .int .i64 v6, .bool false, .slice A8 v7.length c8, .int .i64 0, .int .i64 0, .int .i64 0, .slice none 0 0, .int .i64 0, .int .i64 0, .int .i64 0, .slice none 0 0] _ _ _ := (HT16.out.put 8 (.slice A8 v7.length c8))
 have HT17 := Lib.hid hT
 obtain ⟨w17, hw⟩ : ∃ W, (w16.setCell ⟨g, 8, none⟩ (.slice A8 v7.length c8)) = W := ⟨_, rfl⟩
 rw [hw] at HT17 ⊢
 clear hT hw HT16 d8 z8 d0 z0
 refine wp_region_list ?_
 refine wpList_load_row rfl 34 (.tmp 3) rfl g rfl 34 #[.int .i64 3, .int .i64 v1, .int .i64 v2, .int .i64 v3, .int .i64 v4, .int .i64 v5, .int .i64 v6, .bool false, .slice A8 v7.length c8, .int .i64 0, .int .i64 0, .int .i64 0, .slice none 0 0, .int .i64 0, .int .i64 0, .int .i64 0, .slice none 0 0] (0, 0) _ HT17.out.y Tryz.underlying34 rfl (by kernel_rfl) ?_
 refine wpList_store_row rfl 34 (.tmp 2) (.tmp 78) rfl w.heap.size #[.int .i64 3, .int .i64 v1, .int .i64 v2, .int .i64 v3, .int .i64 v4, .int .i64 v5, .int .i64 v6, .bool false, .slice A8 v7.length c8, .int .i64 0, .int .i64 0, .int .i64 0, .slice none 0 0, .int .i64 0, .int .i64 0, .int .i64 0, .slice none 0 0] rfl rfl 34 #[.int .i64 0, .int .i64 0, .int .i64 0, .int .i64 0, .int .i64 0, .int .i64 0, .int .i64 0, .bool false, .slice none 0 0, .int .i64 0, .int .i64 0, .int .i64 0, .slice none 0 0, .int .i64 0, .int .i64 0, .int .i64 0, .slice none 0 0] HT17.out.g0 (by kernel_rfl) rfl (by simp [Value.oneCell']) ?_
 have HD := Lib.hid (HT17.out.fin (cs' := #[.int .i64 3, .int .i64 v1, .int .i64 v2, .int .i64 v3, .int .i64 v4, .int .i64 v5, .int .i64 v6, .bool false, .slice A8 v7.length c8, .int .i64 0, .int .i64 0, .int .i64 0, .slice none 0 0, .int .i64 0, .int .i64 0, .int .i64 0, .slice none 0 0]))
 obtain ⟨W, hW⟩ : ∃ W, w17.setRow w.heap.size #[.int .i64 3, .int .i64 v1, .int .i64 v2, .int .i64 v3, .int .i64 v4, .int .i64 v5, .int .i64 v6, .bool false, .slice A8 v7.length c8, .int .i64 0, .int .i64 0, .int .i64 0, .slice none 0 0, .int .i64 0, .int .i64 0, .int .i64 0, .slice none 0 0] = W := ⟨_, rfl⟩
 rw [hW] at HD ⊢
 clear hW
 go_wp2_with fail
 refine bodyPost_ret (results_cell_row rfl _ _ w.heap.size 34 #[.int .i64 3, .int .i64 v1, .int .i64 v2, .int .i64 v3, .int .i64 v4, .int .i64 v5, .int .i64 v6, .bool false, .slice A8 v7.length c8, .int .i64 0, .int .i64 0, .int .i64 0, .slice none 0 0, .int .i64 0, .int .i64 0, .int .i64 0, .slice none 0 0] (0, 0) _ rfl HD.out.1 Tryz.underlying34 rfl (by kernel_rfl)) rfl ?_
 rw [HF.out]
 obtain ⟨_, hp, i, d, q⟩ := HD.out
 exact ⟨_, _, _, rfl, Kd.R_mono hp.2 (fun _ _ => trivial), Kd.R_nil _ _ _ _ _, Kd.R_nil _ _ _ _ _, i, d, q⟩
set_option maxHeartbeats 4000000 in
theorem rdMsg5 {B : List Int} {w0 w : World} {x : Nat} {s : EyeS} (hI : IsRd B w0 w x s) (hB : Below w0.heap.size w0 w) (hok : okS s) (hk : (rSmall s).1 = 5) (he : (rSmall s).2.e = 0) :
  Calls Tryz.prog 62 #[.pointer (some ⟨x, 0, none⟩)] w fun e w' => MsP (fun W s => IsRd B w0 W x s) w0 w x (rMsg s).1 (rMsg s).2 e w' := by
 have HT1 := Lib.hid ((Fo.start (I := fun W s => IsRd B w0 W x s) (T := 34) (zs := #[.int .i64 0, .int .i64 0, .int .i64 0, .int .i64 0, .int .i64 0, .int .i64 0, .int .i64 0, .bool false, .slice none 0 0, .int .i64 0, .int .i64 0, .int .i64 0, .slice none 0 0, .int .i64 0, .int .i64 0, .int .i64 0, .slice none 0 0]) hI hB hI.lt hI.ge (fun _ _ _ e h => h.at e)).lay #[.int .i64 0, .int .i64 0, .int .i64 0, .int .i64 0, .int .i64 0, .int .i64 0, .int .i64 0, .bool false, .slice none 0 0, .int .i64 0, .int .i64 0, .int .i64 0, .slice none 0 0, .int .i64 0, .int .i64 0, .int .i64 0, .slice none 0 0])
 obtain ⟨s0, hs0⟩ : ∃ s0, (rSmall s).2 = s0 := ⟨_, rfl⟩
 have HN := Lib.hid (And.intro hk hs0)
 have HO0 := Lib.hid hok
 have ho1 := okS_rsmall hok
 rw [hs0] at ho1 he
 obtain ⟨s1, hs1⟩ : ∃ s1, s0 = s1 := ⟨_, rfl⟩
 rw [hs1] at hs0 ho1 he HN
 have HF0 := Lib.hid (show rMsg s = mBody rSmall rEntry (eList rTr) 5 s1 by
  have hm : rMk s = s1 := by unfold rMk; rw [hk, hs0]; exact eWrong_false _
  unfold rMsg
  rw [hm, hk])
 have HQ := Lib.hid (show (s1.e == 0) = true by rw [he]; rfl)
 clear hI hB hok hk hs0 hs1 he
 obtain ⟨v1, hv1⟩ : ∃ v, (rSmall s1).1 = v := ⟨_, rfl⟩
 obtain ⟨s2, hs2⟩ : ∃ t, (rSmall s1).2 = t := ⟨_, rfl⟩
 have ho2 := okS_rsmall ho1
 rw [hs2] at ho2
 have HO1 := Lib.hid ho1; have HE1 := Lib.hid (And.intro hv1 hs2)
 obtain ⟨v2, hv2⟩ : ∃ v, (rSmall s2).1 = v := ⟨_, rfl⟩
 obtain ⟨s3, hs3⟩ : ∃ t, (rSmall s2).2 = t := ⟨_, rfl⟩
 have ho3 := okS_rsmall ho2
 rw [hs3] at ho3
 have HO2 := Lib.hid ho2; have HE2 := Lib.hid (And.intro hv2 hs3)
 obtain ⟨v3, hv3⟩ : ∃ v, (eNum s3).1 = v := ⟨_, rfl⟩
 obtain ⟨s4, hs4⟩ : ∃ t, (eNum s3).2 = t := ⟨_, rfl⟩
 have ho4 := okS_num ho3
 rw [hs4] at ho4
 have HO3 := Lib.hid ho3; have HE3 := Lib.hid (And.intro hv3 hs4)
 obtain ⟨v4, hv4⟩ : ∃ v, (eNum s4).1 = v := ⟨_, rfl⟩
 obtain ⟨s5, hs5⟩ : ∃ t, (eNum s4).2 = t := ⟨_, rfl⟩
 have ho5 := okS_num ho4
 rw [hs5] at ho5
 have HO4 := Lib.hid ho4; have HE4 := Lib.hid (And.intro hv4 hs5)
 obtain ⟨v5, hv5⟩ : ∃ v, (eNum s5).1 = v := ⟨_, rfl⟩
 obtain ⟨s6, hs6⟩ : ∃ t, (eNum s5).2 = t := ⟨_, rfl⟩
 have ho6 := okS_num ho5
 rw [hs6] at ho6
 have HO5 := Lib.hid ho5; have HE5 := Lib.hid (And.intro hv5 hs6)
 obtain ⟨⟨y0, y1, y2, yl⟩, hv6⟩ : ∃ v, ((ptOf rSmall) s6).1 = v := ⟨_, rfl⟩
 obtain ⟨s7, hs7⟩ : ∃ t, ((ptOf rSmall) s6).2 = t := ⟨_, rfl⟩
 have ho7 := okS_part ho6
 rw [hs7] at ho7
 have HO6 := Lib.hid ho6; have HE6 := Lib.hid (And.intro hv6 hs7)
 have HF := Lib.hid (show rMsg s = (⟨5, v1, v2, v3, v4, v5, 0, false, [], zE, ⟨y0, y1, y2, yl⟩⟩, s7) by
  rw [HF0.out]
  unfold mBody
  rw [if_neg (by decide)]; rw [if_neg (by decide)]; rw [if_neg (by decide)]; rw [if_neg (by decide)]; rw [if_pos rfl]
  simp only [FM, PR, enOf, hv1, hs2, hv2, hs3, hv3, hs4, hv4, hs5, hv5, hs6, hv6, hs7])
 clear HF0 hv1 hs2 ho1 hv2 hs3 ho2 hv3 hs4 ho3 hv4 hs5 ho4 hv5 hs6 ho5 hv6 hs7 ho6 ho7
 go_enter Tryz.func62, Tryz.ntmps62
 go_upto_region 2 with fail
 obtain ⟨g, hg⟩ : ∃ g, (w.alloc (.cells #[.int .i64 0, .int .i64 0, .int .i64 0, .int .i64 0, .int .i64 0, .int .i64 0, .int .i64 0, .bool false, .slice none 0 0, .int .i64 0, .int .i64 0, .int .i64 0, .slice none 0 0, .int .i64 0, .int .i64 0, .int .i64 0, .slice none 0 0] 34)).heap.size = g := ⟨_, rfl⟩
 have hg' : w.heap.size + 1 = g := by rw [← hg]; simp
 obtain ⟨w1, hw1⟩ : ∃ W, (w.alloc (.cells #[.int .i64 0, .int .i64 0, .int .i64 0, .int .i64 0, .int .i64 0, .int .i64 0, .int .i64 0, .bool false, .slice none 0 0, .int .i64 0, .int .i64 0, .int .i64 0, .slice none 0 0, .int .i64 0, .int .i64 0, .int .i64 0, .slice none 0 0] 34)).alloc (.cells #[.int .i64 0, .int .i64 0, .int .i64 0, .int .i64 0, .int .i64 0, .int .i64 0, .int .i64 0, .bool false, .slice none 0 0, .int .i64 0, .int .i64 0, .int .i64 0, .slice none 0 0, .int .i64 0, .int .i64 0, .int .i64 0, .slice none 0 0] 34) = W := ⟨_, rfl⟩
 rw [hg, hw1] at HT1
 rw [hw1, hg']
 clear hg hw1 hg'
 go_wp2_with fail
 have h4 := rdSmall_is HT1.out.i HT1.out.d HO0.out
 rw [HN.out.1, HN.out.2] at h4
 refine h4.mono ?_
 rintro e w2 ⟨rfl, h1, h2, h3⟩
 have HT2 := Lib.hid (HT1.out.call h1 h2 h3)
 clear h1 h2 h3 h4 HT1 HN
 have d0 : w2.cell? ⟨g, 0, none⟩ = some (.int .i64 0) := (blk_cell HT2.out.y 0).trans rfl
 have z0 : w2.frozen? ⟨g, 0, none⟩ = false := blk_frozen HT2.out.y 0
 go_upto_region 3 with fail
 have hT : Fr _ w0 w x g 34 _ #[.int .i64 5, .int .i64 0, .int .i64 0, .int .i64 0, .int .i64 0, .int .i64 0, .int .i64 0, .bool false, .slice none 0 0, .int .i64 0, .int .i64 0, .int .i64 0, .slice none 0 0, .int .i64 0, .int .i64 0, .int .i64 0, .slice none 0 0] _ _ _ := HT2.out.put 0 (.int .i64 5)
 have HT3 := Lib.hid hT
 obtain ⟨w3, hw⟩ : ∃ W, w2.setCell ⟨g, 0, none⟩ (.int .i64 5) = W := ⟨_, rfl⟩
 rw [hw] at HT3 ⊢
 clear hT hw HT2 d0 z0
 have c2 : w3.cell? ⟨x, 2, none⟩ = some (.int .i64 s1.e) := by
  obtain ⟨A, c, j, g1, _⟩ := HT3.out.i
  simp [World.cell?, g1]
 have hq := HQ.out
 have d0 : w3.cell? ⟨g, 0, none⟩ = some (.int .i64 5) := (blk_cell HT3.out.y 0).trans rfl
 go_wp2_with fail
 clear c2 hq d0
 have h4 := rdSmall_is HT3.out.i HT3.out.d HO1.out
 rw [HE1.out.1, HE1.out.2] at h4
 refine h4.mono ?_
 rintro e w4 ⟨rfl, h1, h2, h3⟩
 have HT4 := Lib.hid (HT3.out.call h1 h2 h3)
 clear h1 h2 h3 h4 HT3
 have d1 : w4.cell? ⟨g, 1, none⟩ = some (.int .i64 0) := (blk_cell HT4.out.y 1).trans rfl
 have z1 : w4.frozen? ⟨g, 1, none⟩ = false := blk_frozen HT4.out.y 1
 have d0 : w4.cell? ⟨g, 0, none⟩ = some (.int .i64 5) := (blk_cell HT4.out.y 0).trans rfl
 have z0 : w4.frozen? ⟨g, 0, none⟩ = false := blk_frozen HT4.out.y 0
 go_wp2_with fail
 have hT : Fr _ w0 w x g 34 _ #[.int .i64 5, .int .i64 v1, .int .i64 0, .int .i64 0, .int .i64 0, .int .i64 0, .int .i64 0, .bool false, .slice none 0 0, .int .i64 0, .int .i64 0, .int .i64 0, .slice none 0 0, .int .i64 0, .int .i64 0, .int .i64 0, .slice none 0 0] _ _ _ := (HT4.out.put 1 (.int .i64 v1))
 have HT5 := Lib.hid hT
 obtain ⟨w5, hw⟩ : ∃ W, (w4.setCell ⟨g, 1, none⟩ (.int .i64 v1)) = W := ⟨_, rfl⟩
 rw [hw] at HT5 ⊢
 clear hT hw HT4 d1 z1 d0 z0
 have h4 := rdSmall_is HT5.out.i HT5.out.d HO2.out
 rw [HE2.out.1, HE2.out.2] at h4
 refine h4.mono ?_
 rintro e w6 ⟨rfl, h1, h2, h3⟩
 have HT6 := Lib.hid (HT5.out.call h1 h2 h3)
 clear h1 h2 h3 h4 HT5
 have d2 : w6.cell? ⟨g, 2, none⟩ = some (.int .i64 0) := (blk_cell HT6.out.y 2).trans rfl
 have z2 : w6.frozen? ⟨g, 2, none⟩ = false := blk_frozen HT6.out.y 2
 have d0 : w6.cell? ⟨g, 0, none⟩ = some (.int .i64 5) := (blk_cell HT6.out.y 0).trans rfl
 have z0 : w6.frozen? ⟨g, 0, none⟩ = false := blk_frozen HT6.out.y 0
 go_wp2_with fail
 have hT : Fr _ w0 w x g 34 _ #[.int .i64 5, .int .i64 v1, .int .i64 v2, .int .i64 0, .int .i64 0, .int .i64 0, .int .i64 0, .bool false, .slice none 0 0, .int .i64 0, .int .i64 0, .int .i64 0, .slice none 0 0, .int .i64 0, .int .i64 0, .int .i64 0, .slice none 0 0] _ _ _ := (HT6.out.put 2 (.int .i64 v2))
 have HT7 := Lib.hid hT
 obtain ⟨w7, hw⟩ : ∃ W, (w6.setCell ⟨g, 2, none⟩ (.int .i64 v2)) = W := ⟨_, rfl⟩
 rw [hw] at HT7 ⊢
 clear hT hw HT6 d2 z2 d0 z0
 have h4 := rdNum_is HT7.out.i HT7.out.d HO3.out
 rw [HE3.out.1, HE3.out.2] at h4
 refine h4.mono ?_
 rintro e w8 ⟨rfl, h1, h2, h3⟩
 have HT8 := Lib.hid (HT7.out.call h1 h2 h3)
 clear h1 h2 h3 h4 HT7
 have d3 : w8.cell? ⟨g, 3, none⟩ = some (.int .i64 0) := (blk_cell HT8.out.y 3).trans rfl
 have z3 : w8.frozen? ⟨g, 3, none⟩ = false := blk_frozen HT8.out.y 3
 have d0 : w8.cell? ⟨g, 0, none⟩ = some (.int .i64 5) := (blk_cell HT8.out.y 0).trans rfl
 have z0 : w8.frozen? ⟨g, 0, none⟩ = false := blk_frozen HT8.out.y 0
 go_wp2_with fail
 have hT : Fr _ w0 w x g 34 _ #[.int .i64 5, .int .i64 v1, .int .i64 v2, .int .i64 v3, .int .i64 0, .int .i64 0, .int .i64 0, .bool false, .slice none 0 0, .int .i64 0, .int .i64 0, .int .i64 0, .slice none 0 0, .int .i64 0, .int .i64 0, .int .i64 0, .slice none 0 0] _ _ _ := (HT8.out.put 3 (.int .i64 v3))
 have HT9 := Lib.hid hT
 obtain ⟨w9, hw⟩ : ∃ W, (w8.setCell ⟨g, 3, none⟩ (.int .i64 v3)) = W := ⟨_, rfl⟩
 rw [hw] at HT9 ⊢
 clear hT hw HT8 d3 z3 d0 z0
 have h4 := rdNum_is HT9.out.i HT9.out.d HO4.out
 rw [HE4.out.1, HE4.out.2] at h4
 refine h4.mono ?_
 rintro e w10 ⟨rfl, h1, h2, h3⟩
 have HT10 := Lib.hid (HT9.out.call h1 h2 h3)
 clear h1 h2 h3 h4 HT9
 have d4 : w10.cell? ⟨g, 4, none⟩ = some (.int .i64 0) := (blk_cell HT10.out.y 4).trans rfl
 have z4 : w10.frozen? ⟨g, 4, none⟩ = false := blk_frozen HT10.out.y 4
 have d0 : w10.cell? ⟨g, 0, none⟩ = some (.int .i64 5) := (blk_cell HT10.out.y 0).trans rfl
 have z0 : w10.frozen? ⟨g, 0, none⟩ = false := blk_frozen HT10.out.y 0
 go_wp2_with fail
 have hT : Fr _ w0 w x g 34 _ #[.int .i64 5, .int .i64 v1, .int .i64 v2, .int .i64 v3, .int .i64 v4, .int .i64 0, .int .i64 0, .bool false, .slice none 0 0, .int .i64 0, .int .i64 0, .int .i64 0, .slice none 0 0, .int .i64 0, .int .i64 0, .int .i64 0, .slice none 0 0] _ _ _ := (HT10.out.put 4 (.int .i64 v4))
 have HT11 := Lib.hid hT
 obtain ⟨w11, hw⟩ : ∃ W, (w10.setCell ⟨g, 4, none⟩ (.int .i64 v4)) = W := ⟨_, rfl⟩
 rw [hw] at HT11 ⊢
 clear hT hw HT10 d4 z4 d0 z0
 have h4 := rdNum_is HT11.out.i HT11.out.d HO5.out
 rw [HE5.out.1, HE5.out.2] at h4
 refine h4.mono ?_
 rintro e w12 ⟨rfl, h1, h2, h3⟩
 have HT12 := Lib.hid (HT11.out.call h1 h2 h3)
 clear h1 h2 h3 h4 HT11
 have d5 : w12.cell? ⟨g, 5, none⟩ = some (.int .i64 0) := (blk_cell HT12.out.y 5).trans rfl
 have z5 : w12.frozen? ⟨g, 5, none⟩ = false := blk_frozen HT12.out.y 5
 have d0 : w12.cell? ⟨g, 0, none⟩ = some (.int .i64 5) := (blk_cell HT12.out.y 0).trans rfl
 have z0 : w12.frozen? ⟨g, 0, none⟩ = false := blk_frozen HT12.out.y 0
 go_wp2_with fail
 have hT : Fr _ w0 w x g 34 _ #[.int .i64 5, .int .i64 v1, .int .i64 v2, .int .i64 v3, .int .i64 v4, .int .i64 v5, .int .i64 0, .bool false, .slice none 0 0, .int .i64 0, .int .i64 0, .int .i64 0, .slice none 0 0, .int .i64 0, .int .i64 0, .int .i64 0, .slice none 0 0] _ _ _ := (HT12.out.put 5 (.int .i64 v5))
 have HT13 := Lib.hid hT
 obtain ⟨w13, hw⟩ : ∃ W, (w12.setCell ⟨g, 5, none⟩ (.int .i64 v5)) = W := ⟨_, rfl⟩
 rw [hw] at HT13 ⊢
 clear hT hw HT12 d5 z5 d0 z0
 have h4 := rdPart_is HT13.out.i HT13.out.d HO6.out
 rw [HE6.out.1, HE6.out.2] at h4
 refine h4.mono ?_
 rintro e w14 ⟨v_, rfl, hv, h1, h2, h3⟩
 have hv : Kd.R (Kd.int .u8) 5 w14 w13.heap.size (fun _ => True) v_ yl := hv
 obtain ⟨A16, c16, rfl⟩ := Kd.R_slice hv
 have HT14 := Lib.hid (HT13.out.callR h1 h2 h3 hv)
 clear h1 h2 h3 h4 hv HT13
 have d13 : w14.cell? ⟨g, 13, none⟩ = some (.int .i64 0) := (blk_cell HT14.out.y 13).trans rfl
 have z13 : w14.frozen? ⟨g, 13, none⟩ = false := blk_frozen HT14.out.y 13
 have d14 : w14.cell? ⟨g, 14, none⟩ = some (.int .i64 0) := (blk_cell HT14.out.y 14).trans rfl
 have z14 : w14.frozen? ⟨g, 14, none⟩ = false := blk_frozen HT14.out.y 14
 have d15 : w14.cell? ⟨g, 15, none⟩ = some (.int .i64 0) := (blk_cell HT14.out.y 15).trans rfl
 have z15 : w14.frozen? ⟨g, 15, none⟩ = false := blk_frozen HT14.out.y 15
 have d16 : w14.cell? ⟨g, 16, none⟩ = some (.slice none 0 0) := (blk_cell HT14.out.y 16).trans rfl
 have z16 : w14.frozen? ⟨g, 16, none⟩ = false := blk_frozen HT14.out.y 16
 have d0 : w14.cell? ⟨g, 0, none⟩ = some (.int .i64 5) := (blk_cell HT14.out.y 0).trans rfl
 have z0 : w14.frozen? ⟨g, 0, none⟩ = false := blk_frozen HT14.out.y 0
 go_upto_region 28 with fail
 have hT : Fr _ w0 w x g 34 _ #[.int .i64 5, .int .i64 v1, .int .i64 v2, .int .i64 v3, .int .i64 v4, .int .i64 v5, .int .i64 0, .bool false, .slice none 0 0, .int .i64 0, .int .i64 0, .int .i64 0, .slice none 0 0, .int .i64 y0, .int .i64 y1, .int .i64 y2, .slice A16 yl.length c16] _ _ _ := ((((HT14.out.put 13 (.int .i64 y0)).put 14 (.int .i64 y1)).put 15 (.int .i64 y2)).put 16 (.slice A16 yl.length c16))
 have HT15 := Lib.hid hT
 obtain ⟨w15, hw⟩ : ∃ W, ((((w14.setCell ⟨g, 13, none⟩ (.int .i64 y0)).setCell ⟨g, 14, none⟩ (.int .i64 y1)).setCell ⟨g, 15, none⟩ (.int .i64 y2)).setCell ⟨g, 16, none⟩ (.slice A16 yl.length c16)) = W := ⟨_, rfl⟩
 rw [hw] at HT15 ⊢
 clear hT hw HT14 d13 z13 d14 z14 d15 z15 d16 z16 d0 z0
 refine wp_region_list ?_
 refine wpList_load_row rfl 34 (.tmp 3) rfl g rfl 34 #[.int .i64 5, .int .i64 v1, .int .i64 v2, .int .i64 v3, .int .i64 v4, .int .i64 v5, .int .i64 0, .bool false, .slice none 0 0, .int .i64 0, .int .i64 0, .int .i64 0, .slice none 0 0, .int .i64 y0, .int .i64 y1, .int .i64 y2, .slice A16 yl.length c16] (0, 0) _ HT15.out.y Tryz.underlying34 rfl (by kernel_rfl) ?_
 refine wpList_store_row rfl 34 (.tmp 2) (.tmp 78) rfl w.heap.size #[.int .i64 5, .int .i64 v1, .int .i64 v2, .int .i64 v3, .int .i64 v4, .int .i64 v5, .int .i64 0, .bool false, .slice none 0 0, .int .i64 0, .int .i64 0, .int .i64 0, .slice none 0 0, .int .i64 y0, .int .i64 y1, .int .i64 y2, .slice A16 yl.length c16] rfl rfl 34 #[.int .i64 0, .int .i64 0, .int .i64 0, .int .i64 0, .int .i64 0, .int .i64 0, .int .i64 0, .bool false, .slice none 0 0, .int .i64 0, .int .i64 0, .int .i64 0, .slice none 0 0, .int .i64 0, .int .i64 0, .int .i64 0, .slice none 0 0] HT15.out.g0 (by kernel_rfl) rfl (by simp [Value.oneCell']) ?_
 have HD := Lib.hid (HT15.out.fin (cs' := #[.int .i64 5, .int .i64 v1, .int .i64 v2, .int .i64 v3, .int .i64 v4, .int .i64 v5, .int .i64 0, .bool false, .slice none 0 0, .int .i64 0, .int .i64 0, .int .i64 0, .slice none 0 0, .int .i64 y0, .int .i64 y1, .int .i64 y2, .slice A16 yl.length c16]))
 obtain ⟨W, hW⟩ : ∃ W, w15.setRow w.heap.size #[.int .i64 5, .int .i64 v1, .int .i64 v2, .int .i64 v3, .int .i64 v4, .int .i64 v5, .int .i64 0, .bool false, .slice none 0 0, .int .i64 0, .int .i64 0, .int .i64 0, .slice none 0 0, .int .i64 y0, .int .i64 y1, .int .i64 y2, .slice A16 yl.length c16] = W := ⟨_, rfl⟩
 rw [hW] at HD ⊢
 clear hW
 go_wp2_with fail
 refine bodyPost_ret (results_cell_row rfl _ _ w.heap.size 34 #[.int .i64 5, .int .i64 v1, .int .i64 v2, .int .i64 v3, .int .i64 v4, .int .i64 v5, .int .i64 0, .bool false, .slice none 0 0, .int .i64 0, .int .i64 0, .int .i64 0, .slice none 0 0, .int .i64 y0, .int .i64 y1, .int .i64 y2, .slice A16 yl.length c16] (0, 0) _ rfl HD.out.1 Tryz.underlying34 rfl (by kernel_rfl)) rfl ?_
 rw [HF.out]
 obtain ⟨_, hp, i, d, q⟩ := HD.out
 exact ⟨_, _, _, rfl, Kd.R_nil _ _ _ _ _, Kd.R_nil _ _ _ _ _, Kd.R_mono hp.2 (fun _ _ => trivial), i, d, q⟩
set_option maxHeartbeats 4000000 in
theorem rdMsg6 {B : List Int} {w0 w : World} {x : Nat} {s : EyeS} (hI : IsRd B w0 w x s) (hB : Below w0.heap.size w0 w) (hok : okS s) (hk : (rSmall s).1 = 6) (he : (rSmall s).2.e = 0) :
  Calls Tryz.prog 62 #[.pointer (some ⟨x, 0, none⟩)] w fun e w' => MsP (fun W s => IsRd B w0 W x s) w0 w x (rMsg s).1 (rMsg s).2 e w' := by
 have HT1 := Lib.hid ((Fo.start (I := fun W s => IsRd B w0 W x s) (T := 34) (zs := #[.int .i64 0, .int .i64 0, .int .i64 0, .int .i64 0, .int .i64 0, .int .i64 0, .int .i64 0, .bool false, .slice none 0 0, .int .i64 0, .int .i64 0, .int .i64 0, .slice none 0 0, .int .i64 0, .int .i64 0, .int .i64 0, .slice none 0 0]) hI hB hI.lt hI.ge (fun _ _ _ e h => h.at e)).lay #[.int .i64 0, .int .i64 0, .int .i64 0, .int .i64 0, .int .i64 0, .int .i64 0, .int .i64 0, .bool false, .slice none 0 0, .int .i64 0, .int .i64 0, .int .i64 0, .slice none 0 0, .int .i64 0, .int .i64 0, .int .i64 0, .slice none 0 0])
 obtain ⟨s0, hs0⟩ : ∃ s0, (rSmall s).2 = s0 := ⟨_, rfl⟩
 have HN := Lib.hid (And.intro hk hs0)
 have HO0 := Lib.hid hok
 have ho1 := okS_rsmall hok
 rw [hs0] at ho1 he
 obtain ⟨s1, hs1⟩ : ∃ s1, s0 = s1 := ⟨_, rfl⟩
 rw [hs1] at hs0 ho1 he HN
 have HF0 := Lib.hid (show rMsg s = mBody rSmall rEntry (eList rTr) 6 s1 by
  have hm : rMk s = s1 := by unfold rMk; rw [hk, hs0]; exact eWrong_false _
  unfold rMsg
  rw [hm, hk])
 have HQ := Lib.hid (show (s1.e == 0) = true by rw [he]; rfl)
 clear hI hB hok hk hs0 hs1 he
 obtain ⟨v1, hv1⟩ : ∃ v, (rSmall s1).1 = v := ⟨_, rfl⟩
 obtain ⟨s2, hs2⟩ : ∃ t, (rSmall s1).2 = t := ⟨_, rfl⟩
 have ho2 := okS_rsmall ho1
 rw [hs2] at ho2
 have HO1 := Lib.hid ho1; have HE1 := Lib.hid (And.intro hv1 hs2)
 obtain ⟨v2, hv2⟩ : ∃ v, (rSmall s2).1 = v := ⟨_, rfl⟩
 obtain ⟨s3, hs3⟩ : ∃ t, (rSmall s2).2 = t := ⟨_, rfl⟩
 have ho3 := okS_rsmall ho2
 rw [hs3] at ho3
 have HO2 := Lib.hid ho2; have HE2 := Lib.hid (And.intro hv2 hs3)
 obtain ⟨⟨y0, y1, y2, yl⟩, hv3⟩ : ∃ v, (rEntry s3).1 = v := ⟨_, rfl⟩
 obtain ⟨s4, hs4⟩ : ∃ t, (rEntry s3).2 = t := ⟨_, rfl⟩
 have ho4 := okS_rentry ho3
 rw [hs4] at ho4
 have HO3 := Lib.hid ho3; have HE3 := Lib.hid (And.intro hv3 hs4)
 have HF := Lib.hid (show rMsg s = (⟨6, v1, v2, 0, 0, 0, 0, false, [], ⟨y0, y1, y2, yl⟩, zP⟩, s4) by
  rw [HF0.out]
  unfold mBody
  rw [if_neg (by decide)]; rw [if_neg (by decide)]; rw [if_neg (by decide)]; rw [if_neg (by decide)]; rw [if_neg (by decide)]; rw [if_pos rfl]
  simp only [FM, PR, enOf, hv1, hs2, hv2, hs3, hv3, hs4])
 clear HF0 hv1 hs2 ho1 hv2 hs3 ho2 hv3 hs4 ho3 ho4
 go_enter Tryz.func62, Tryz.ntmps62
 go_upto_region 2 with fail
 obtain ⟨g, hg⟩ : ∃ g, (w.alloc (.cells #[.int .i64 0, .int .i64 0, .int .i64 0, .int .i64 0, .int .i64 0, .int .i64 0, .int .i64 0, .bool false, .slice none 0 0, .int .i64 0, .int .i64 0, .int .i64 0, .slice none 0 0, .int .i64 0, .int .i64 0, .int .i64 0, .slice none 0 0] 34)).heap.size = g := ⟨_, rfl⟩
 have hg' : w.heap.size + 1 = g := by rw [← hg]; simp
 obtain ⟨w1, hw1⟩ : ∃ W, (w.alloc (.cells #[.int .i64 0, .int .i64 0, .int .i64 0, .int .i64 0, .int .i64 0, .int .i64 0, .int .i64 0, .bool false, .slice none 0 0, .int .i64 0, .int .i64 0, .int .i64 0, .slice none 0 0, .int .i64 0, .int .i64 0, .int .i64 0, .slice none 0 0] 34)).alloc (.cells #[.int .i64 0, .int .i64 0, .int .i64 0, .int .i64 0, .int .i64 0, .int .i64 0, .int .i64 0, .bool false, .slice none 0 0, .int .i64 0, .int .i64 0, .int .i64 0, .slice none 0 0, .int .i64 0, .int .i64 0, .int .i64 0, .slice none 0 0] 34) = W := ⟨_, rfl⟩
 rw [hg, hw1] at HT1
 rw [hw1, hg']
 clear hg hw1 hg'
 go_wp2_with fail
 have h4 := rdSmall_is HT1.out.i HT1.out.d HO0.out
 rw [HN.out.1, HN.out.2] at h4
 refine h4.mono ?_
 rintro e w2 ⟨rfl, h1, h2, h3⟩
 have HT2 := Lib.hid (HT1.out.call h1 h2 h3)
 clear h1 h2 h3 h4 HT1 HN
 have d0 : w2.cell? ⟨g, 0, none⟩ = some (.int .i64 0) := (blk_cell HT2.out.y 0).trans rfl
 have z0 : w2.frozen? ⟨g, 0, none⟩ = false := blk_frozen HT2.out.y 0
 go_upto_region 3 with fail
 have hT : Fr _ w0 w x g 34 _ #[.int .i64 6, .int .i64 0, .int .i64 0, .int .i64 0, .int .i64 0, .int .i64 0, .int .i64 0, .bool false, .slice none 0 0, .int .i64 0, .int .i64 0, .int .i64 0, .slice none 0 0, .int .i64 0, .int .i64 0, .int .i64 0, .slice none 0 0] _ _ _ := HT2.out.put 0 (.int .i64 6)
 have HT3 := Lib.hid hT
 obtain ⟨w3, hw⟩ : ∃ W, w2.setCell ⟨g, 0, none⟩ (.int .i64 6) = W := ⟨_, rfl⟩
 rw [hw] at HT3 ⊢
 clear hT hw HT2 d0 z0
 have c2 : w3.cell? ⟨x, 2, none⟩ = some (.int .i64 s1.e) := by
  obtain ⟨A, c, j, g1, _⟩ := HT3.out.i
  simp [World.cell?, g1]
 have hq := HQ.out
 have d0 : w3.cell? ⟨g, 0, none⟩ = some (.int .i64 6) := (blk_cell HT3.out.y 0).trans rfl
 go_wp2_with fail
 clear c2 hq d0
 have h4 := rdSmall_is HT3.out.i HT3.out.d HO1.out
 rw [HE1.out.1, HE1.out.2] at h4
 refine h4.mono ?_
 rintro e w4 ⟨rfl, h1, h2, h3⟩
 have HT4 := Lib.hid (HT3.out.call h1 h2 h3)
 clear h1 h2 h3 h4 HT3
 have d1 : w4.cell? ⟨g, 1, none⟩ = some (.int .i64 0) := (blk_cell HT4.out.y 1).trans rfl
 have z1 : w4.frozen? ⟨g, 1, none⟩ = false := blk_frozen HT4.out.y 1
 have d0 : w4.cell? ⟨g, 0, none⟩ = some (.int .i64 6) := (blk_cell HT4.out.y 0).trans rfl
 have z0 : w4.frozen? ⟨g, 0, none⟩ = false := blk_frozen HT4.out.y 0
 go_wp2_with fail
 have hT : Fr _ w0 w x g 34 _ #[.int .i64 6, .int .i64 v1, .int .i64 0, .int .i64 0, .int .i64 0, .int .i64 0, .int .i64 0, .bool false, .slice none 0 0, .int .i64 0, .int .i64 0, .int .i64 0, .slice none 0 0, .int .i64 0, .int .i64 0, .int .i64 0, .slice none 0 0] _ _ _ := (HT4.out.put 1 (.int .i64 v1))
 have HT5 := Lib.hid hT
 obtain ⟨w5, hw⟩ : ∃ W, (w4.setCell ⟨g, 1, none⟩ (.int .i64 v1)) = W := ⟨_, rfl⟩
 rw [hw] at HT5 ⊢
 clear hT hw HT4 d1 z1 d0 z0
 have h4 := rdSmall_is HT5.out.i HT5.out.d HO2.out
 rw [HE2.out.1, HE2.out.2] at h4
 refine h4.mono ?_
 rintro e w6 ⟨rfl, h1, h2, h3⟩
 have HT6 := Lib.hid (HT5.out.call h1 h2 h3)
 clear h1 h2 h3 h4 HT5
 have d2 : w6.cell? ⟨g, 2, none⟩ = some (.int .i64 0) := (blk_cell HT6.out.y 2).trans rfl
 have z2 : w6.frozen? ⟨g, 2, none⟩ = false := blk_frozen HT6.out.y 2
 have d0 : w6.cell? ⟨g, 0, none⟩ = some (.int .i64 6) := (blk_cell HT6.out.y 0).trans rfl
 have z0 : w6.frozen? ⟨g, 0, none⟩ = false := blk_frozen HT6.out.y 0
 go_wp2_with fail
 have hT : Fr _ w0 w x g 34 _ #[.int .i64 6, .int .i64 v1, .int .i64 v2, .int .i64 0, .int .i64 0, .int .i64 0, .int .i64 0, .bool false, .slice none 0 0, .int .i64 0, .int .i64 0, .int .i64 0, .slice none 0 0, .int .i64 0, .int .i64 0, .int .i64 0, .slice none 0 0] _ _ _ := (HT6.out.put 2 (.int .i64 v2))
 have HT7 := Lib.hid hT
 obtain ⟨w7, hw⟩ : ∃ W, (w6.setCell ⟨g, 2, none⟩ (.int .i64 v2)) = W := ⟨_, rfl⟩
 rw [hw] at HT7 ⊢
 clear hT hw HT6 d2 z2 d0 z0
 have h4 := rdEntry_is HT7.out.i HT7.out.d HO3.out
 rw [HE3.out.1, HE3.out.2] at h4
 refine h4.mono ?_
 rintro e w8 ⟨v_, rfl, hv, h1, h2, h3⟩
 have hv : Kd.R G.k26 26 w8 w7.heap.size (fun _ => True) v_ yl := hv
 obtain ⟨A12, c12, rfl⟩ := Kd.R_slice hv
 have HT8 := Lib.hid (HT7.out.callR h1 h2 h3 hv)
 clear h1 h2 h3 h4 hv HT7
 have d9 : w8.cell? ⟨g, 9, none⟩ = some (.int .i64 0) := (blk_cell HT8.out.y 9).trans rfl
 have z9 : w8.frozen? ⟨g, 9, none⟩ = false := blk_frozen HT8.out.y 9
 have d10 : w8.cell? ⟨g, 10, none⟩ = some (.int .i64 0) := (blk_cell HT8.out.y 10).trans rfl
 have z10 : w8.frozen? ⟨g, 10, none⟩ = false := blk_frozen HT8.out.y 10
 have d11 : w8.cell? ⟨g, 11, none⟩ = some (.int .i64 0) := (blk_cell HT8.out.y 11).trans rfl
 have z11 : w8.frozen? ⟨g, 11, none⟩ = false := blk_frozen HT8.out.y 11
 have d12 : w8.cell? ⟨g, 12, none⟩ = some (.slice none 0 0) := (blk_cell HT8.out.y 12).trans rfl
 have z12 : w8.frozen? ⟨g, 12, none⟩ = false := blk_frozen HT8.out.y 12
 have d0 : w8.cell? ⟨g, 0, none⟩ = some (.int .i64 6) := (blk_cell HT8.out.y 0).trans rfl
 have z0 : w8.frozen? ⟨g, 0, none⟩ = false := blk_frozen HT8.out.y 0
 go_upto_region 9 with fail
 have hT : Fr _ w0 w x g 34 _ #[.int .i64 6, .int .i64 v1, .int .i64 v2, .int .i64 0, .int .i64 0, .int .i64 0, .int .i64 0, .bool false, .slice none 0 0, .int .i64 y0, .int .i64 y1, .int .i64 y2, .slice A12 yl.length c12, .int .i64 0, .int .i64 0, .int .i64 0, .slice none 0 0] _ _ _ := ((((HT8.out.put 9 (.int .i64 y0)).put 10 (.int .i64 y1)).put 11 (.int .i64 y2)).put 12 (.slice A12 yl.length c12))
 have HT9 := Lib.hid hT
 obtain ⟨w9, hw⟩ : ∃ W, ((((w8.setCell ⟨g, 9, none⟩ (.int .i64 y0)).setCell ⟨g, 10, none⟩ (.int .i64 y1)).setCell ⟨g, 11, none⟩ (.int .i64 y2)).setCell ⟨g, 12, none⟩ (.slice A12 yl.length c12)) = W := ⟨_, rfl⟩
 rw [hw] at HT9 ⊢
 clear hT hw HT8 d9 z9 d10 z10 d11 z11 d12 z12 d0 z0
 refine wp_region_list ?_
 refine wpList_load_row rfl 34 (.tmp 3) rfl g rfl 34 #[.int .i64 6, .int .i64 v1, .int .i64 v2, .int .i64 0, .int .i64 0, .int .i64 0, .int .i64 0, .bool false, .slice none 0 0, .int .i64 y0, .int .i64 y1, .int .i64 y2, .slice A12 yl.length c12, .int .i64 0, .int .i64 0, .int .i64 0, .slice none 0 0] (0, 0) _ HT9.out.y Tryz.underlying34 rfl (by kernel_rfl) ?_
 refine wpList_store_row rfl 34 (.tmp 2) (.tmp 36) rfl w.heap.size #[.int .i64 6, .int .i64 v1, .int .i64 v2, .int .i64 0, .int .i64 0, .int .i64 0, .int .i64 0, .bool false, .slice none 0 0, .int .i64 y0, .int .i64 y1, .int .i64 y2, .slice A12 yl.length c12, .int .i64 0, .int .i64 0, .int .i64 0, .slice none 0 0] rfl rfl 34 #[.int .i64 0, .int .i64 0, .int .i64 0, .int .i64 0, .int .i64 0, .int .i64 0, .int .i64 0, .bool false, .slice none 0 0, .int .i64 0, .int .i64 0, .int .i64 0, .slice none 0 0, .int .i64 0, .int .i64 0, .int .i64 0, .slice none 0 0] HT9.out.g0 (by kernel_rfl) rfl (by simp [Value.oneCell']) ?_
 have HD := Lib.hid (HT9.out.fin (cs' := #[.int .i64 6, .int .i64 v1, .int .i64 v2, .int .i64 0, .int .i64 0, .int .i64 0, .int .i64 0, .bool false, .slice none 0 0, .int .i64 y0, .int .i64 y1, .int .i64 y2, .slice A12 yl.length c12, .int .i64 0, .int .i64 0, .int .i64 0, .slice none 0 0]))
 obtain ⟨W, hW⟩ : ∃ W, w9.setRow w.heap.size #[.int .i64 6, .int .i64 v1, .int .i64 v2, .int .i64 0, .int .i64 0, .int .i64 0, .int .i64 0, .bool false, .slice none 0 0, .int .i64 y0, .int .i64 y1, .int .i64 y2, .slice A12 yl.length c12, .int .i64 0, .int .i64 0, .int .i64 0, .slice none 0 0] = W := ⟨_, rfl⟩
 rw [hW] at HD ⊢
 clear hW
 go_wp2_with fail
 refine bodyPost_ret (results_cell_row rfl _ _ w.heap.size 34 #[.int .i64 6, .int .i64 v1, .int .i64 v2, .int .i64 0, .int .i64 0, .int .i64 0, .int .i64 0, .bool false, .slice none 0 0, .int .i64 y0, .int .i64 y1, .int .i64 y2, .slice A12 yl.length c12, .int .i64 0, .int .i64 0, .int .i64 0, .slice none 0 0] (0, 0) _ rfl HD.out.1 Tryz.underlying34 rfl (by kernel_rfl)) rfl ?_
 rw [HF.out]
 obtain ⟨_, hp, i, d, q⟩ := HD.out
 exact ⟨_, _, _, rfl, Kd.R_nil _ _ _ _ _, Kd.R_mono hp.2 (fun _ _ => trivial), Kd.R_nil _ _ _ _ _, i, d, q⟩
end Go.Proofs.YtgiefblcckikeaaGreat.M
end

section
/- The reference's Reader: a message, the rest (printed by genrdq04.py). -/
set_option maxRecDepth 100000
attribute [local irreducible] Go.wpStill
namespace Go.Proofs.YtgiefblcckikeaaGreat.M
open Go.RowKit Go.Proofs.YtgiefblcckikeaaGreatW.PrintWords Go.Proofs.YtgiefblcckikeaaGreatW.PrintLast Go.Proofs.YtgiefblcckikeaaGreatW.PrintMore Go.Proofs.YtgiefblcckikeaaGreat.G
set_option maxHeartbeats 4000000 in
theorem rdMsgE {B : List Int} {w0 w : World} {x : Nat} {s : EyeS} (hI : IsRd B w0 w x s) (hB : Below w0.heap.size w0 w) (hok : okS s) {k : Int} (hk : (rSmall s).1 = k) (hn : k < 1 ∨ 6 < k) (he : ¬ (rSmall s).2.e = 0) :
  Calls Tryz.prog 62 #[.pointer (some ⟨x, 0, none⟩)] w fun e w' => MsP (fun W s => IsRd B w0 W x s) w0 w x (rMsg s).1 (rMsg s).2 e w' := by
 have HT1 := Lib.hid ((Fo.start (I := fun W s => IsRd B w0 W x s) (T := 34) (zs := #[.int .i64 0, .int .i64 0, .int .i64 0, .int .i64 0, .int .i64 0, .int .i64 0, .int .i64 0, .bool false, .slice none 0 0, .int .i64 0, .int .i64 0, .int .i64 0, .slice none 0 0, .int .i64 0, .int .i64 0, .int .i64 0, .slice none 0 0]) hI hB hI.lt hI.ge (fun _ _ _ e h => h.at e)).lay #[.int .i64 0, .int .i64 0, .int .i64 0, .int .i64 0, .int .i64 0, .int .i64 0, .int .i64 0, .bool false, .slice none 0 0, .int .i64 0, .int .i64 0, .int .i64 0, .slice none 0 0, .int .i64 0, .int .i64 0, .int .i64 0, .slice none 0 0])
 obtain ⟨s0, hs0⟩ : ∃ s0, (rSmall s).2 = s0 := ⟨_, rfl⟩
 have HN := Lib.hid (And.intro hk hs0)
 have HO0 := Lib.hid hok
 have ho1 := okS_rsmall hok
 rw [hs0] at ho1 he
 obtain ⟨s1, hs1⟩ : ∃ s1, eWrong true s0 = s1 := ⟨_, rfl⟩
 have ho1 := okS_wrong true ho1
 rw [hs1] at ho1
 have hnk : notKind k = true := by unfold notKind; rw [Bool.or_eq_true, decide_eq_true_eq, decide_eq_true_eq]; exact hn
 have HF0 := Lib.hid (show rMsg s = mBody rSmall rEntry (eList rTr) k s1 by
  have hm : rMk s = s1 := by unfold rMk; rw [hk, hs0, hnk, hs1]
  unfold rMsg
  rw [hm, hk])
 have q1 : (k == 1) = false := beq_eq_false_iff_ne.2 (by omega)
 have q2 : (k == 2) = false := beq_eq_false_iff_ne.2 (by omega)
 have q3 : (k == 3) = false := beq_eq_false_iff_ne.2 (by omega)
 have q4 : (k == 4) = false := beq_eq_false_iff_ne.2 (by omega)
 have q5 : (k == 5) = false := beq_eq_false_iff_ne.2 (by omega)
 have q6 : (k == 6) = false := beq_eq_false_iff_ne.2 (by omega)
 have HS1 := Lib.hid (show s0 = s1 by rw [← hs1, eWrong_st _ he])
 have HQ := Lib.hid (show (s0.e == 0) = false from beq_eq_false_iff_ne.2 he)
 have HKN := Lib.hid hn
 clear hI hB hok hk hs0 hs1 he hn hnk
 obtain ⟨v1, hv1⟩ : ∃ v, (rSmall s1).1 = v := ⟨_, rfl⟩
 obtain ⟨s2, hs2⟩ : ∃ t, (rSmall s1).2 = t := ⟨_, rfl⟩
 have ho2 := okS_rsmall ho1
 rw [hs2] at ho2
 have HO1 := Lib.hid ho1; have HE1 := Lib.hid (And.intro hv1 hs2)
 obtain ⟨v2, hv2⟩ : ∃ v, (rSmall s2).1 = v := ⟨_, rfl⟩
 obtain ⟨s3, hs3⟩ : ∃ t, (rSmall s2).2 = t := ⟨_, rfl⟩
 have ho3 := okS_rsmall ho2
 rw [hs3] at ho3
 have HO2 := Lib.hid ho2; have HE2 := Lib.hid (And.intro hv2 hs3)
 obtain ⟨v3, hv3⟩ : ∃ v, (eNum s3).1 = v := ⟨_, rfl⟩
 obtain ⟨s4, hs4⟩ : ∃ t, (eNum s3).2 = t := ⟨_, rfl⟩
 have ho4 := okS_num ho3
 rw [hs4] at ho4
 have HO3 := Lib.hid ho3; have HE3 := Lib.hid (And.intro hv3 hs4)
 have HF := Lib.hid (show rMsg s = (⟨k, v1, v2, v3, 0, 0, 0, false, [], zE, zP⟩, s4) by
  rw [HF0.out]
  unfold mBody
  rw [if_neg (by have := HKN.out; omega)]; rw [if_neg (by have := HKN.out; omega)]; rw [if_neg (by have := HKN.out; omega)]; rw [if_neg (by have := HKN.out; omega)]; rw [if_neg (by have := HKN.out; omega)]; rw [if_neg (by have := HKN.out; omega)]; skip
  simp only [FM, PR, enOf, hv1, hs2, hv2, hs3, hv3, hs4])
 clear HF0 hv1 hs2 ho1 hv2 hs3 ho2 hv3 hs4 ho3 ho4
 go_enter Tryz.func62, Tryz.ntmps62
 go_upto_region 2 with fail
 obtain ⟨g, hg⟩ : ∃ g, (w.alloc (.cells #[.int .i64 0, .int .i64 0, .int .i64 0, .int .i64 0, .int .i64 0, .int .i64 0, .int .i64 0, .bool false, .slice none 0 0, .int .i64 0, .int .i64 0, .int .i64 0, .slice none 0 0, .int .i64 0, .int .i64 0, .int .i64 0, .slice none 0 0] 34)).heap.size = g := ⟨_, rfl⟩
 have hg' : w.heap.size + 1 = g := by rw [← hg]; simp
 obtain ⟨w1, hw1⟩ : ∃ W, (w.alloc (.cells #[.int .i64 0, .int .i64 0, .int .i64 0, .int .i64 0, .int .i64 0, .int .i64 0, .int .i64 0, .bool false, .slice none 0 0, .int .i64 0, .int .i64 0, .int .i64 0, .slice none 0 0, .int .i64 0, .int .i64 0, .int .i64 0, .slice none 0 0] 34)).alloc (.cells #[.int .i64 0, .int .i64 0, .int .i64 0, .int .i64 0, .int .i64 0, .int .i64 0, .int .i64 0, .bool false, .slice none 0 0, .int .i64 0, .int .i64 0, .int .i64 0, .slice none 0 0, .int .i64 0, .int .i64 0, .int .i64 0, .slice none 0 0] 34) = W := ⟨_, rfl⟩
 rw [hg, hw1] at HT1
 rw [hw1, hg']
 clear hg hw1 hg'
 go_wp2_with fail
 have h4 := rdSmall_is HT1.out.i HT1.out.d HO0.out
 rw [HN.out.1, HN.out.2] at h4
 refine h4.mono ?_
 rintro e w2 ⟨rfl, h1, h2, h3⟩
 have HT2 := Lib.hid (HT1.out.call h1 h2 h3)
 clear h1 h2 h3 h4 HT1 HN
 have d0 : w2.cell? ⟨g, 0, none⟩ = some (.int .i64 0) := (blk_cell HT2.out.y 0).trans rfl
 have z0 : w2.frozen? ⟨g, 0, none⟩ = false := blk_frozen HT2.out.y 0
 go_upto_region 3 with fail
 have hT : Fr _ w0 w x g 34 _ #[.int .i64 k, .int .i64 0, .int .i64 0, .int .i64 0, .int .i64 0, .int .i64 0, .int .i64 0, .bool false, .slice none 0 0, .int .i64 0, .int .i64 0, .int .i64 0, .slice none 0 0, .int .i64 0, .int .i64 0, .int .i64 0, .slice none 0 0] _ _ _ := HT2.out.put 0 (.int .i64 k)
 have HT3 := Lib.hid hT
 obtain ⟨w3, hw⟩ : ∃ W, w2.setCell ⟨g, 0, none⟩ (.int .i64 k) = W := ⟨_, rfl⟩
 rw [hw] at HT3 ⊢
 clear hT hw HT2 d0 z0
 have c2 : w3.cell? ⟨x, 2, none⟩ = some (.int .i64 s0.e) := by
  obtain ⟨A, c, j, g1, _⟩ := HT3.out.i
  simp [World.cell?, g1]
 have hq := HQ.out
 have d0 : w3.cell? ⟨g, 0, none⟩ = some (.int .i64 k) := (blk_cell HT3.out.y 0).trans rfl
 go_wp2_with fail
 clear c2 hq d0
 rw [HS1.out] at HT3
 have h4 := rdSmall_is HT3.out.i HT3.out.d HO1.out
 rw [HE1.out.1, HE1.out.2] at h4
 refine h4.mono ?_
 rintro e w4 ⟨rfl, h1, h2, h3⟩
 have HT4 := Lib.hid (HT3.out.call h1 h2 h3)
 clear h1 h2 h3 h4 HT3
 have d1 : w4.cell? ⟨g, 1, none⟩ = some (.int .i64 0) := (blk_cell HT4.out.y 1).trans rfl
 have z1 : w4.frozen? ⟨g, 1, none⟩ = false := blk_frozen HT4.out.y 1
 have d0 : w4.cell? ⟨g, 0, none⟩ = some (.int .i64 k) := (blk_cell HT4.out.y 0).trans rfl
 have z0 : w4.frozen? ⟨g, 0, none⟩ = false := blk_frozen HT4.out.y 0
 go_wp2_with fail
 have hT : Fr _ w0 w x g 34 _ #[.int .i64 k, .int .i64 v1, .int .i64 0, .int .i64 0, .int .i64 0, .int .i64 0, .int .i64 0, .bool false, .slice none 0 0, .int .i64 0, .int .i64 0, .int .i64 0, .slice none 0 0, .int .i64 0, .int .i64 0, .int .i64 0, .slice none 0 0] _ _ _ := (HT4.out.put 1 (.int .i64 v1))
 have HT5 := Lib.hid hT
 obtain ⟨w5, hw⟩ : ∃ W, (w4.setCell ⟨g, 1, none⟩ (.int .i64 v1)) = W := ⟨_, rfl⟩
 rw [hw] at HT5 ⊢
 clear hT hw HT4 d1 z1 d0 z0
 have h4 := rdSmall_is HT5.out.i HT5.out.d HO2.out
 rw [HE2.out.1, HE2.out.2] at h4
 refine h4.mono ?_
 rintro e w6 ⟨rfl, h1, h2, h3⟩
 have HT6 := Lib.hid (HT5.out.call h1 h2 h3)
 clear h1 h2 h3 h4 HT5
 have d2 : w6.cell? ⟨g, 2, none⟩ = some (.int .i64 0) := (blk_cell HT6.out.y 2).trans rfl
 have z2 : w6.frozen? ⟨g, 2, none⟩ = false := blk_frozen HT6.out.y 2
 have d0 : w6.cell? ⟨g, 0, none⟩ = some (.int .i64 k) := (blk_cell HT6.out.y 0).trans rfl
 have z0 : w6.frozen? ⟨g, 0, none⟩ = false := blk_frozen HT6.out.y 0
 go_wp2_with fail
 have hT : Fr _ w0 w x g 34 _ #[.int .i64 k, .int .i64 v1, .int .i64 v2, .int .i64 0, .int .i64 0, .int .i64 0, .int .i64 0, .bool false, .slice none 0 0, .int .i64 0, .int .i64 0, .int .i64 0, .slice none 0 0, .int .i64 0, .int .i64 0, .int .i64 0, .slice none 0 0] _ _ _ := (HT6.out.put 2 (.int .i64 v2))
 have HT7 := Lib.hid hT
 obtain ⟨w7, hw⟩ : ∃ W, (w6.setCell ⟨g, 2, none⟩ (.int .i64 v2)) = W := ⟨_, rfl⟩
 rw [hw] at HT7 ⊢
 clear hT hw HT6 d2 z2 d0 z0
 have h4 := rdNum_is HT7.out.i HT7.out.d HO3.out
 rw [HE3.out.1, HE3.out.2] at h4
 refine h4.mono ?_
 rintro e w8 ⟨rfl, h1, h2, h3⟩
 have HT8 := Lib.hid (HT7.out.call h1 h2 h3)
 clear h1 h2 h3 h4 HT7
 have d3 : w8.cell? ⟨g, 3, none⟩ = some (.int .i64 0) := (blk_cell HT8.out.y 3).trans rfl
 have z3 : w8.frozen? ⟨g, 3, none⟩ = false := blk_frozen HT8.out.y 3
 have d0 : w8.cell? ⟨g, 0, none⟩ = some (.int .i64 k) := (blk_cell HT8.out.y 0).trans rfl
 have z0 : w8.frozen? ⟨g, 0, none⟩ = false := blk_frozen HT8.out.y 0
 go_upto_region 28 with fail
 have hT : Fr _ w0 w x g 34 _ #[.int .i64 k, .int .i64 v1, .int .i64 v2, .int .i64 v3, .int .i64 0, .int .i64 0, .int .i64 0, .bool false, .slice none 0 0, .int .i64 0, .int .i64 0, .int .i64 0, .slice none 0 0, .int .i64 0, .int .i64 0, .int .i64 0, .slice none 0 0] _ _ _ := (HT8.out.put 3 (.int .i64 v3))
 have HT9 := Lib.hid hT
 obtain ⟨w9, hw⟩ : ∃ W, (w8.setCell ⟨g, 3, none⟩ (.int .i64 v3)) = W := ⟨_, rfl⟩
 rw [hw] at HT9 ⊢
 clear hT hw HT8 d3 z3 d0 z0
 refine wp_region_list ?_
 refine wpList_load_row rfl 34 (.tmp 3) rfl g rfl 34 #[.int .i64 k, .int .i64 v1, .int .i64 v2, .int .i64 v3, .int .i64 0, .int .i64 0, .int .i64 0, .bool false, .slice none 0 0, .int .i64 0, .int .i64 0, .int .i64 0, .slice none 0 0, .int .i64 0, .int .i64 0, .int .i64 0, .slice none 0 0] (0, 0) _ HT9.out.y Tryz.underlying34 rfl (by kernel_rfl) ?_
 refine wpList_store_row rfl 34 (.tmp 2) (.tmp 78) rfl w.heap.size #[.int .i64 k, .int .i64 v1, .int .i64 v2, .int .i64 v3, .int .i64 0, .int .i64 0, .int .i64 0, .bool false, .slice none 0 0, .int .i64 0, .int .i64 0, .int .i64 0, .slice none 0 0, .int .i64 0, .int .i64 0, .int .i64 0, .slice none 0 0] rfl rfl 34 #[.int .i64 0, .int .i64 0, .int .i64 0, .int .i64 0, .int .i64 0, .int .i64 0, .int .i64 0, .bool false, .slice none 0 0, .int .i64 0, .int .i64 0, .int .i64 0, .slice none 0 0, .int .i64 0, .int .i64 0, .int .i64 0, .slice none 0 0] HT9.out.g0 (by kernel_rfl) rfl (by simp [Value.oneCell']) ?_
 have HD := Lib.hid (HT9.out.fin (cs' := #[.int .i64 k, .int .i64 v1, .int .i64 v2, .int .i64 v3, .int .i64 0, .int .i64 0, .int .i64 0, .bool false, .slice none 0 0, .int .i64 0, .int .i64 0, .int .i64 0, .slice none 0 0, .int .i64 0, .int .i64 0, .int .i64 0, .slice none 0 0]))
 obtain ⟨W, hW⟩ : ∃ W, w9.setRow w.heap.size #[.int .i64 k, .int .i64 v1, .int .i64 v2, .int .i64 v3, .int .i64 0, .int .i64 0, .int .i64 0, .bool false, .slice none 0 0, .int .i64 0, .int .i64 0, .int .i64 0, .slice none 0 0, .int .i64 0, .int .i64 0, .int .i64 0, .slice none 0 0] = W := ⟨_, rfl⟩
 rw [hW] at HD ⊢
 clear hW
 go_wp2_with fail
 refine bodyPost_ret (results_cell_row rfl _ _ w.heap.size 34 #[.int .i64 k, .int .i64 v1, .int .i64 v2, .int .i64 v3, .int .i64 0, .int .i64 0, .int .i64 0, .bool false, .slice none 0 0, .int .i64 0, .int .i64 0, .int .i64 0, .slice none 0 0, .int .i64 0, .int .i64 0, .int .i64 0, .slice none 0 0] (0, 0) _ rfl HD.out.1 Tryz.underlying34 rfl (by kernel_rfl)) rfl ?_
 rw [HF.out]
 obtain ⟨_, hp, i, d, q⟩ := HD.out
 exact ⟨_, _, _, rfl, Kd.R_nil _ _ _ _ _, Kd.R_nil _ _ _ _ _, Kd.R_nil _ _ _ _ _, i, d, q⟩
set_option maxHeartbeats 4000000 in
theorem rdMsgL {B : List Int} {w0 w : World} {x : Nat} {s : EyeS} (hI : IsRd B w0 w x s) (hB : Below w0.heap.size w0 w) (hok : okS s) {k : Int} (hk : (rSmall s).1 = k) (hn : k < 1 ∨ 6 < k) (he : (rSmall s).2.e = 0) (hlow : k < 1) :
  Calls Tryz.prog 62 #[.pointer (some ⟨x, 0, none⟩)] w fun e w' => MsP (fun W s => IsRd B w0 W x s) w0 w x (rMsg s).1 (rMsg s).2 e w' := by
 have HT1 := Lib.hid ((Fo.start (I := fun W s => IsRd B w0 W x s) (T := 34) (zs := #[.int .i64 0, .int .i64 0, .int .i64 0, .int .i64 0, .int .i64 0, .int .i64 0, .int .i64 0, .bool false, .slice none 0 0, .int .i64 0, .int .i64 0, .int .i64 0, .slice none 0 0, .int .i64 0, .int .i64 0, .int .i64 0, .slice none 0 0]) hI hB hI.lt hI.ge (fun _ _ _ e h => h.at e)).lay #[.int .i64 0, .int .i64 0, .int .i64 0, .int .i64 0, .int .i64 0, .int .i64 0, .int .i64 0, .bool false, .slice none 0 0, .int .i64 0, .int .i64 0, .int .i64 0, .slice none 0 0, .int .i64 0, .int .i64 0, .int .i64 0, .slice none 0 0])
 obtain ⟨s0, hs0⟩ : ∃ s0, (rSmall s).2 = s0 := ⟨_, rfl⟩
 have HN := Lib.hid (And.intro hk hs0)
 have HO0 := Lib.hid hok
 have ho1 := okS_rsmall hok
 rw [hs0] at ho1 he
 obtain ⟨s1, hs1⟩ : ∃ s1, eWrong true s0 = s1 := ⟨_, rfl⟩
 have ho1 := okS_wrong true ho1
 rw [hs1] at ho1
 have hnk : notKind k = true := by unfold notKind; rw [Bool.or_eq_true, decide_eq_true_eq, decide_eq_true_eq]; exact hn
 have HF0 := Lib.hid (show rMsg s = mBody rSmall rEntry (eList rTr) k s1 by
  have hm : rMk s = s1 := by unfold rMk; rw [hk, hs0, hnk, hs1]
  unfold rMsg
  rw [hm, hk])
 have q1 : (k == 1) = false := beq_eq_false_iff_ne.2 (by omega)
 have q2 : (k == 2) = false := beq_eq_false_iff_ne.2 (by omega)
 have q3 : (k == 3) = false := beq_eq_false_iff_ne.2 (by omega)
 have q4 : (k == 4) = false := beq_eq_false_iff_ne.2 (by omega)
 have q5 : (k == 5) = false := beq_eq_false_iff_ne.2 (by omega)
 have q6 : (k == 6) = false := beq_eq_false_iff_ne.2 (by omega)
 have HS1 := Lib.hid hs1
 have HQ := Lib.hid (show (s0.e == 0) = true by rw [he]; rfl)
 have p1 : decide (k < 1) = true := decide_eq_true hlow
 have HKN := Lib.hid hn
 clear hI hB hok hk hs0 hs1 he hn hnk hlow
 obtain ⟨v1, hv1⟩ : ∃ v, (rSmall s1).1 = v := ⟨_, rfl⟩
 obtain ⟨s2, hs2⟩ : ∃ t, (rSmall s1).2 = t := ⟨_, rfl⟩
 have ho2 := okS_rsmall ho1
 rw [hs2] at ho2
 have HO1 := Lib.hid ho1; have HE1 := Lib.hid (And.intro hv1 hs2)
 obtain ⟨v2, hv2⟩ : ∃ v, (rSmall s2).1 = v := ⟨_, rfl⟩
 obtain ⟨s3, hs3⟩ : ∃ t, (rSmall s2).2 = t := ⟨_, rfl⟩
 have ho3 := okS_rsmall ho2
 rw [hs3] at ho3
 have HO2 := Lib.hid ho2; have HE2 := Lib.hid (And.intro hv2 hs3)
 obtain ⟨v3, hv3⟩ : ∃ v, (eNum s3).1 = v := ⟨_, rfl⟩
 obtain ⟨s4, hs4⟩ : ∃ t, (eNum s3).2 = t := ⟨_, rfl⟩
 have ho4 := okS_num ho3
 rw [hs4] at ho4
 have HO3 := Lib.hid ho3; have HE3 := Lib.hid (And.intro hv3 hs4)
 have HF := Lib.hid (show rMsg s = (⟨k, v1, v2, v3, 0, 0, 0, false, [], zE, zP⟩, s4) by
  rw [HF0.out]
  unfold mBody
  rw [if_neg (by have := HKN.out; omega)]; rw [if_neg (by have := HKN.out; omega)]; rw [if_neg (by have := HKN.out; omega)]; rw [if_neg (by have := HKN.out; omega)]; rw [if_neg (by have := HKN.out; omega)]; rw [if_neg (by have := HKN.out; omega)]; skip
  simp only [FM, PR, enOf, hv1, hs2, hv2, hs3, hv3, hs4])
 clear HF0 hv1 hs2 ho1 hv2 hs3 ho2 hv3 hs4 ho3 ho4
 go_enter Tryz.func62, Tryz.ntmps62
 go_upto_region 2 with fail
 obtain ⟨g, hg⟩ : ∃ g, (w.alloc (.cells #[.int .i64 0, .int .i64 0, .int .i64 0, .int .i64 0, .int .i64 0, .int .i64 0, .int .i64 0, .bool false, .slice none 0 0, .int .i64 0, .int .i64 0, .int .i64 0, .slice none 0 0, .int .i64 0, .int .i64 0, .int .i64 0, .slice none 0 0] 34)).heap.size = g := ⟨_, rfl⟩
 have hg' : w.heap.size + 1 = g := by rw [← hg]; simp
 obtain ⟨w1, hw1⟩ : ∃ W, (w.alloc (.cells #[.int .i64 0, .int .i64 0, .int .i64 0, .int .i64 0, .int .i64 0, .int .i64 0, .int .i64 0, .bool false, .slice none 0 0, .int .i64 0, .int .i64 0, .int .i64 0, .slice none 0 0, .int .i64 0, .int .i64 0, .int .i64 0, .slice none 0 0] 34)).alloc (.cells #[.int .i64 0, .int .i64 0, .int .i64 0, .int .i64 0, .int .i64 0, .int .i64 0, .int .i64 0, .bool false, .slice none 0 0, .int .i64 0, .int .i64 0, .int .i64 0, .slice none 0 0, .int .i64 0, .int .i64 0, .int .i64 0, .slice none 0 0] 34) = W := ⟨_, rfl⟩
 rw [hg, hw1] at HT1
 rw [hw1, hg']
 clear hg hw1 hg'
 go_wp2_with fail
 have h4 := rdSmall_is HT1.out.i HT1.out.d HO0.out
 rw [HN.out.1, HN.out.2] at h4
 refine h4.mono ?_
 rintro e w2 ⟨rfl, h1, h2, h3⟩
 have HT2 := Lib.hid (HT1.out.call h1 h2 h3)
 clear h1 h2 h3 h4 HT1 HN
 have d0 : w2.cell? ⟨g, 0, none⟩ = some (.int .i64 0) := (blk_cell HT2.out.y 0).trans rfl
 have z0 : w2.frozen? ⟨g, 0, none⟩ = false := blk_frozen HT2.out.y 0
 go_upto_region 3 with fail
 have hT : Fr _ w0 w x g 34 _ #[.int .i64 k, .int .i64 0, .int .i64 0, .int .i64 0, .int .i64 0, .int .i64 0, .int .i64 0, .bool false, .slice none 0 0, .int .i64 0, .int .i64 0, .int .i64 0, .slice none 0 0, .int .i64 0, .int .i64 0, .int .i64 0, .slice none 0 0] _ _ _ := HT2.out.put 0 (.int .i64 k)
 have HT3 := Lib.hid hT
 obtain ⟨w3, hw⟩ : ∃ W, w2.setCell ⟨g, 0, none⟩ (.int .i64 k) = W := ⟨_, rfl⟩
 rw [hw] at HT3 ⊢
 clear hT hw HT2 d0 z0
 have c2 : w3.cell? ⟨x, 2, none⟩ = some (.int .i64 s0.e) := by
  obtain ⟨A, c, j, g1, _⟩ := HT3.out.i
  simp [World.cell?, g1]
 have hq := HQ.out
 have d0 : w3.cell? ⟨g, 0, none⟩ = some (.int .i64 k) := (blk_cell HT3.out.y 0).trans rfl
 go_wp2_with fail
 clear c2 hq d0
 have h4 := rdFail40 HT3.out.i HT3.out.d
 rw [HS1.out] at h4
 refine h4.mono ?_
 rintro e w4 ⟨rfl, h1, h2, h3⟩
 have HT4 := Lib.hid (HT3.out.call h1 h2 h3)
 clear h1 h2 h3 h4 HT3 p1
 go_wp2_with fail
 have h4 := rdSmall_is HT4.out.i HT4.out.d HO1.out
 rw [HE1.out.1, HE1.out.2] at h4
 refine h4.mono ?_
 rintro e w5 ⟨rfl, h1, h2, h3⟩
 have HT5 := Lib.hid (HT4.out.call h1 h2 h3)
 clear h1 h2 h3 h4 HT4
 have d1 : w5.cell? ⟨g, 1, none⟩ = some (.int .i64 0) := (blk_cell HT5.out.y 1).trans rfl
 have z1 : w5.frozen? ⟨g, 1, none⟩ = false := blk_frozen HT5.out.y 1
 have d0 : w5.cell? ⟨g, 0, none⟩ = some (.int .i64 k) := (blk_cell HT5.out.y 0).trans rfl
 have z0 : w5.frozen? ⟨g, 0, none⟩ = false := blk_frozen HT5.out.y 0
 go_wp2_with fail
 have hT : Fr _ w0 w x g 34 _ #[.int .i64 k, .int .i64 v1, .int .i64 0, .int .i64 0, .int .i64 0, .int .i64 0, .int .i64 0, .bool false, .slice none 0 0, .int .i64 0, .int .i64 0, .int .i64 0, .slice none 0 0, .int .i64 0, .int .i64 0, .int .i64 0, .slice none 0 0] _ _ _ := (HT5.out.put 1 (.int .i64 v1))
 have HT6 := Lib.hid hT
 obtain ⟨w6, hw⟩ : ∃ W, (w5.setCell ⟨g, 1, none⟩ (.int .i64 v1)) = W := ⟨_, rfl⟩
 rw [hw] at HT6 ⊢
 clear hT hw HT5 d1 z1 d0 z0
 have h4 := rdSmall_is HT6.out.i HT6.out.d HO2.out
 rw [HE2.out.1, HE2.out.2] at h4
 refine h4.mono ?_
 rintro e w7 ⟨rfl, h1, h2, h3⟩
 have HT7 := Lib.hid (HT6.out.call h1 h2 h3)
 clear h1 h2 h3 h4 HT6
 have d2 : w7.cell? ⟨g, 2, none⟩ = some (.int .i64 0) := (blk_cell HT7.out.y 2).trans rfl
 have z2 : w7.frozen? ⟨g, 2, none⟩ = false := blk_frozen HT7.out.y 2
 have d0 : w7.cell? ⟨g, 0, none⟩ = some (.int .i64 k) := (blk_cell HT7.out.y 0).trans rfl
 have z0 : w7.frozen? ⟨g, 0, none⟩ = false := blk_frozen HT7.out.y 0
 go_wp2_with fail
 have hT : Fr _ w0 w x g 34 _ #[.int .i64 k, .int .i64 v1, .int .i64 v2, .int .i64 0, .int .i64 0, .int .i64 0, .int .i64 0, .bool false, .slice none 0 0, .int .i64 0, .int .i64 0, .int .i64 0, .slice none 0 0, .int .i64 0, .int .i64 0, .int .i64 0, .slice none 0 0] _ _ _ := (HT7.out.put 2 (.int .i64 v2))
 have HT8 := Lib.hid hT
 obtain ⟨w8, hw⟩ : ∃ W, (w7.setCell ⟨g, 2, none⟩ (.int .i64 v2)) = W := ⟨_, rfl⟩
 rw [hw] at HT8 ⊢
 clear hT hw HT7 d2 z2 d0 z0
 have h4 := rdNum_is HT8.out.i HT8.out.d HO3.out
 rw [HE3.out.1, HE3.out.2] at h4
 refine h4.mono ?_
 rintro e w9 ⟨rfl, h1, h2, h3⟩
 have HT9 := Lib.hid (HT8.out.call h1 h2 h3)
 clear h1 h2 h3 h4 HT8
 have d3 : w9.cell? ⟨g, 3, none⟩ = some (.int .i64 0) := (blk_cell HT9.out.y 3).trans rfl
 have z3 : w9.frozen? ⟨g, 3, none⟩ = false := blk_frozen HT9.out.y 3
 have d0 : w9.cell? ⟨g, 0, none⟩ = some (.int .i64 k) := (blk_cell HT9.out.y 0).trans rfl
 have z0 : w9.frozen? ⟨g, 0, none⟩ = false := blk_frozen HT9.out.y 0
 go_upto_region 28 with fail
 have hT : Fr _ w0 w x g 34 _ #[.int .i64 k, .int .i64 v1, .int .i64 v2, .int .i64 v3, .int .i64 0, .int .i64 0, .int .i64 0, .bool false, .slice none 0 0, .int .i64 0, .int .i64 0, .int .i64 0, .slice none 0 0, .int .i64 0, .int .i64 0, .int .i64 0, .slice none 0 0] _ _ _ := (HT9.out.put 3 (.int .i64 v3))
 have HT10 := Lib.hid hT
 obtain ⟨w10, hw⟩ : ∃ W, (w9.setCell ⟨g, 3, none⟩ (.int .i64 v3)) = W := ⟨_, rfl⟩
 rw [hw] at HT10 ⊢
 clear hT hw HT9 d3 z3 d0 z0
 refine wp_region_list ?_
 refine wpList_load_row rfl 34 (.tmp 3) rfl g rfl 34 #[.int .i64 k, .int .i64 v1, .int .i64 v2, .int .i64 v3, .int .i64 0, .int .i64 0, .int .i64 0, .bool false, .slice none 0 0, .int .i64 0, .int .i64 0, .int .i64 0, .slice none 0 0, .int .i64 0, .int .i64 0, .int .i64 0, .slice none 0 0] (0, 0) _ HT10.out.y Tryz.underlying34 rfl (by kernel_rfl) ?_
 refine wpList_store_row rfl 34 (.tmp 2) (.tmp 78) rfl w.heap.size #[.int .i64 k, .int .i64 v1, .int .i64 v2, .int .i64 v3, .int .i64 0, .int .i64 0, .int .i64 0, .bool false, .slice none 0 0, .int .i64 0, .int .i64 0, .int .i64 0, .slice none 0 0, .int .i64 0, .int .i64 0, .int .i64 0, .slice none 0 0] rfl rfl 34 #[.int .i64 0, .int .i64 0, .int .i64 0, .int .i64 0, .int .i64 0, .int .i64 0, .int .i64 0, .bool false, .slice none 0 0, .int .i64 0, .int .i64 0, .int .i64 0, .slice none 0 0, .int .i64 0, .int .i64 0, .int .i64 0, .slice none 0 0] HT10.out.g0 (by kernel_rfl) rfl (by simp [Value.oneCell']) ?_
 have HD := Lib.hid (HT10.out.fin (cs' := #[.int .i64 k, .int .i64 v1, .int .i64 v2, .int .i64 v3, .int .i64 0, .int .i64 0, .int .i64 0, .bool false, .slice none 0 0, .int .i64 0, .int .i64 0, .int .i64 0, .slice none 0 0, .int .i64 0, .int .i64 0, .int .i64 0, .slice none 0 0]))
 obtain ⟨W, hW⟩ : ∃ W, w10.setRow w.heap.size #[.int .i64 k, .int .i64 v1, .int .i64 v2, .int .i64 v3, .int .i64 0, .int .i64 0, .int .i64 0, .bool false, .slice none 0 0, .int .i64 0, .int .i64 0, .int .i64 0, .slice none 0 0, .int .i64 0, .int .i64 0, .int .i64 0, .slice none 0 0] = W := ⟨_, rfl⟩
 rw [hW] at HD ⊢
 clear hW
 go_wp2_with fail
 refine bodyPost_ret (results_cell_row rfl _ _ w.heap.size 34 #[.int .i64 k, .int .i64 v1, .int .i64 v2, .int .i64 v3, .int .i64 0, .int .i64 0, .int .i64 0, .bool false, .slice none 0 0, .int .i64 0, .int .i64 0, .int .i64 0, .slice none 0 0, .int .i64 0, .int .i64 0, .int .i64 0, .slice none 0 0] (0, 0) _ rfl HD.out.1 Tryz.underlying34 rfl (by kernel_rfl)) rfl ?_
 rw [HF.out]
 obtain ⟨_, hp, i, d, q⟩ := HD.out
 exact ⟨_, _, _, rfl, Kd.R_nil _ _ _ _ _, Kd.R_nil _ _ _ _ _, Kd.R_nil _ _ _ _ _, i, d, q⟩
set_option maxHeartbeats 4000000 in
theorem rdMsgH {B : List Int} {w0 w : World} {x : Nat} {s : EyeS} (hI : IsRd B w0 w x s) (hB : Below w0.heap.size w0 w) (hok : okS s) {k : Int} (hk : (rSmall s).1 = k) (hn : k < 1 ∨ 6 < k) (he : (rSmall s).2.e = 0) (hhigh : 6 < k) :
  Calls Tryz.prog 62 #[.pointer (some ⟨x, 0, none⟩)] w fun e w' => MsP (fun W s => IsRd B w0 W x s) w0 w x (rMsg s).1 (rMsg s).2 e w' := by
 have HT1 := Lib.hid ((Fo.start (I := fun W s => IsRd B w0 W x s) (T := 34) (zs := #[.int .i64 0, .int .i64 0, .int .i64 0, .int .i64 0, .int .i64 0, .int .i64 0, .int .i64 0, .bool false, .slice none 0 0, .int .i64 0, .int .i64 0, .int .i64 0, .slice none 0 0, .int .i64 0, .int .i64 0, .int .i64 0, .slice none 0 0]) hI hB hI.lt hI.ge (fun _ _ _ e h => h.at e)).lay #[.int .i64 0, .int .i64 0, .int .i64 0, .int .i64 0, .int .i64 0, .int .i64 0, .int .i64 0, .bool false, .slice none 0 0, .int .i64 0, .int .i64 0, .int .i64 0, .slice none 0 0, .int .i64 0, .int .i64 0, .int .i64 0, .slice none 0 0])
 obtain ⟨s0, hs0⟩ : ∃ s0, (rSmall s).2 = s0 := ⟨_, rfl⟩
 have HN := Lib.hid (And.intro hk hs0)
 have HO0 := Lib.hid hok
 have ho1 := okS_rsmall hok
 rw [hs0] at ho1 he
 obtain ⟨s1, hs1⟩ : ∃ s1, eWrong true s0 = s1 := ⟨_, rfl⟩
 have ho1 := okS_wrong true ho1
 rw [hs1] at ho1
 have hnk : notKind k = true := by unfold notKind; rw [Bool.or_eq_true, decide_eq_true_eq, decide_eq_true_eq]; exact hn
 have HF0 := Lib.hid (show rMsg s = mBody rSmall rEntry (eList rTr) k s1 by
  have hm : rMk s = s1 := by unfold rMk; rw [hk, hs0, hnk, hs1]
  unfold rMsg
  rw [hm, hk])
 have q1 : (k == 1) = false := beq_eq_false_iff_ne.2 (by omega)
 have q2 : (k == 2) = false := beq_eq_false_iff_ne.2 (by omega)
 have q3 : (k == 3) = false := beq_eq_false_iff_ne.2 (by omega)
 have q4 : (k == 4) = false := beq_eq_false_iff_ne.2 (by omega)
 have q5 : (k == 5) = false := beq_eq_false_iff_ne.2 (by omega)
 have q6 : (k == 6) = false := beq_eq_false_iff_ne.2 (by omega)
 have HS1 := Lib.hid hs1
 have HQ := Lib.hid (show (s0.e == 0) = true by rw [he]; rfl)
 have p1 : decide (k < 1) = false := decide_eq_false (by omega)
 have p2 : decide ((6 : Int) < k) = true := decide_eq_true hhigh
 have HKN := Lib.hid hn
 clear hI hB hok hk hs0 hs1 he hn hnk hhigh
 obtain ⟨v1, hv1⟩ : ∃ v, (rSmall s1).1 = v := ⟨_, rfl⟩
 obtain ⟨s2, hs2⟩ : ∃ t, (rSmall s1).2 = t := ⟨_, rfl⟩
 have ho2 := okS_rsmall ho1
 rw [hs2] at ho2
 have HO1 := Lib.hid ho1; have HE1 := Lib.hid (And.intro hv1 hs2)
 obtain ⟨v2, hv2⟩ : ∃ v, (rSmall s2).1 = v := ⟨_, rfl⟩
 obtain ⟨s3, hs3⟩ : ∃ t, (rSmall s2).2 = t := ⟨_, rfl⟩
 have ho3 := okS_rsmall ho2
 rw [hs3] at ho3
 have HO2 := Lib.hid ho2; have HE2 := Lib.hid (And.intro hv2 hs3)
 obtain ⟨v3, hv3⟩ : ∃ v, (eNum s3).1 = v := ⟨_, rfl⟩
 obtain ⟨s4, hs4⟩ : ∃ t, (eNum s3).2 = t := ⟨_, rfl⟩
 have ho4 := okS_num ho3
 rw [hs4] at ho4
 have HO3 := Lib.hid ho3; have HE3 := Lib.hid (And.intro hv3 hs4)
 have HF := Lib.hid (show rMsg s = (⟨k, v1, v2, v3, 0, 0, 0, false, [], zE, zP⟩, s4) by
  rw [HF0.out]
  unfold mBody
  rw [if_neg (by have := HKN.out; omega)]; rw [if_neg (by have := HKN.out; omega)]; rw [if_neg (by have := HKN.out; omega)]; rw [if_neg (by have := HKN.out; omega)]; rw [if_neg (by have := HKN.out; omega)]; rw [if_neg (by have := HKN.out; omega)]; skip
  simp only [FM, PR, enOf, hv1, hs2, hv2, hs3, hv3, hs4])
 clear HF0 hv1 hs2 ho1 hv2 hs3 ho2 hv3 hs4 ho3 ho4
 go_enter Tryz.func62, Tryz.ntmps62
 go_upto_region 2 with fail
 obtain ⟨g, hg⟩ : ∃ g, (w.alloc (.cells #[.int .i64 0, .int .i64 0, .int .i64 0, .int .i64 0, .int .i64 0, .int .i64 0, .int .i64 0, .bool false, .slice none 0 0, .int .i64 0, .int .i64 0, .int .i64 0, .slice none 0 0, .int .i64 0, .int .i64 0, .int .i64 0, .slice none 0 0] 34)).heap.size = g := ⟨_, rfl⟩
 have hg' : w.heap.size + 1 = g := by rw [← hg]; simp
 obtain ⟨w1, hw1⟩ : ∃ W, (w.alloc (.cells #[.int .i64 0, .int .i64 0, .int .i64 0, .int .i64 0, .int .i64 0, .int .i64 0, .int .i64 0, .bool false, .slice none 0 0, .int .i64 0, .int .i64 0, .int .i64 0, .slice none 0 0, .int .i64 0, .int .i64 0, .int .i64 0, .slice none 0 0] 34)).alloc (.cells #[.int .i64 0, .int .i64 0, .int .i64 0, .int .i64 0, .int .i64 0, .int .i64 0, .int .i64 0, .bool false, .slice none 0 0, .int .i64 0, .int .i64 0, .int .i64 0, .slice none 0 0, .int .i64 0, .int .i64 0, .int .i64 0, .slice none 0 0] 34) = W := ⟨_, rfl⟩
 rw [hg, hw1] at HT1
 rw [hw1, hg']
 clear hg hw1 hg'
 go_wp2_with fail
 have h4 := rdSmall_is HT1.out.i HT1.out.d HO0.out
 rw [HN.out.1, HN.out.2] at h4
 refine h4.mono ?_
 rintro e w2 ⟨rfl, h1, h2, h3⟩
 have HT2 := Lib.hid (HT1.out.call h1 h2 h3)
 clear h1 h2 h3 h4 HT1 HN
 have d0 : w2.cell? ⟨g, 0, none⟩ = some (.int .i64 0) := (blk_cell HT2.out.y 0).trans rfl
 have z0 : w2.frozen? ⟨g, 0, none⟩ = false := blk_frozen HT2.out.y 0
 go_upto_region 3 with fail
 have hT : Fr _ w0 w x g 34 _ #[.int .i64 k, .int .i64 0, .int .i64 0, .int .i64 0, .int .i64 0, .int .i64 0, .int .i64 0, .bool false, .slice none 0 0, .int .i64 0, .int .i64 0, .int .i64 0, .slice none 0 0, .int .i64 0, .int .i64 0, .int .i64 0, .slice none 0 0] _ _ _ := HT2.out.put 0 (.int .i64 k)
 have HT3 := Lib.hid hT
 obtain ⟨w3, hw⟩ : ∃ W, w2.setCell ⟨g, 0, none⟩ (.int .i64 k) = W := ⟨_, rfl⟩
 rw [hw] at HT3 ⊢
 clear hT hw HT2 d0 z0
 have c2 : w3.cell? ⟨x, 2, none⟩ = some (.int .i64 s0.e) := by
  obtain ⟨A, c, j, g1, _⟩ := HT3.out.i
  simp [World.cell?, g1]
 have hq := HQ.out
 have d0 : w3.cell? ⟨g, 0, none⟩ = some (.int .i64 k) := (blk_cell HT3.out.y 0).trans rfl
 go_wp2_with fail
 clear c2 hq d0
 have h4 := rdFail40 HT3.out.i HT3.out.d
 rw [HS1.out] at h4
 refine h4.mono ?_
 rintro e w4 ⟨rfl, h1, h2, h3⟩
 have HT4 := Lib.hid (HT3.out.call h1 h2 h3)
 clear h1 h2 h3 h4 HT3 p1 p2
 go_wp2_with fail
 have h4 := rdSmall_is HT4.out.i HT4.out.d HO1.out
 rw [HE1.out.1, HE1.out.2] at h4
 refine h4.mono ?_
 rintro e w5 ⟨rfl, h1, h2, h3⟩
 have HT5 := Lib.hid (HT4.out.call h1 h2 h3)
 clear h1 h2 h3 h4 HT4
 have d1 : w5.cell? ⟨g, 1, none⟩ = some (.int .i64 0) := (blk_cell HT5.out.y 1).trans rfl
 have z1 : w5.frozen? ⟨g, 1, none⟩ = false := blk_frozen HT5.out.y 1
 have d0 : w5.cell? ⟨g, 0, none⟩ = some (.int .i64 k) := (blk_cell HT5.out.y 0).trans rfl
 have z0 : w5.frozen? ⟨g, 0, none⟩ = false := blk_frozen HT5.out.y 0
 go_wp2_with fail
 have hT : Fr _ w0 w x g 34 _ #[.int .i64 k, .int .i64 v1, .int .i64 0, .int .i64 0, .int .i64 0, .int .i64 0, .int .i64 0, .bool false, .slice none 0 0, .int .i64 0, .int .i64 0, .int .i64 0, .slice none 0 0, .int .i64 0, .int .i64 0, .int .i64 0, .slice none 0 0] _ _ _ := (HT5.out.put 1 (.int .i64 v1))
 have HT6 := Lib.hid hT
 obtain ⟨w6, hw⟩ : ∃ W, (w5.setCell ⟨g, 1, none⟩ (.int .i64 v1)) = W := ⟨_, rfl⟩
 rw [hw] at HT6 ⊢
 clear hT hw HT5 d1 z1 d0 z0
 have h4 := rdSmall_is HT6.out.i HT6.out.d HO2.out
 rw [HE2.out.1, HE2.out.2] at h4
 refine h4.mono ?_
 rintro e w7 ⟨rfl, h1, h2, h3⟩
 have HT7 := Lib.hid (HT6.out.call h1 h2 h3)
 clear h1 h2 h3 h4 HT6
 have d2 : w7.cell? ⟨g, 2, none⟩ = some (.int .i64 0) := (blk_cell HT7.out.y 2).trans rfl
 have z2 : w7.frozen? ⟨g, 2, none⟩ = false := blk_frozen HT7.out.y 2
 have d0 : w7.cell? ⟨g, 0, none⟩ = some (.int .i64 k) := (blk_cell HT7.out.y 0).trans rfl
 have z0 : w7.frozen? ⟨g, 0, none⟩ = false := blk_frozen HT7.out.y 0
 go_wp2_with fail
 have hT : Fr _ w0 w x g 34 _ #[.int .i64 k, .int .i64 v1, .int .i64 v2, .int .i64 0, .int .i64 0, .int .i64 0, .int .i64 0, .bool false, .slice none 0 0, .int .i64 0, .int .i64 0, .int .i64 0, .slice none 0 0, .int .i64 0, .int .i64 0, .int .i64 0, .slice none 0 0] _ _ _ := (HT7.out.put 2 (.int .i64 v2))
 have HT8 := Lib.hid hT
 obtain ⟨w8, hw⟩ : ∃ W, (w7.setCell ⟨g, 2, none⟩ (.int .i64 v2)) = W := ⟨_, rfl⟩
 rw [hw] at HT8 ⊢
 clear hT hw HT7 d2 z2 d0 z0
 have h4 := rdNum_is HT8.out.i HT8.out.d HO3.out
 rw [HE3.out.1, HE3.out.2] at h4
 refine h4.mono ?_
 rintro e w9 ⟨rfl, h1, h2, h3⟩
 have HT9 := Lib.hid (HT8.out.call h1 h2 h3)
 clear h1 h2 h3 h4 HT8
 have d3 : w9.cell? ⟨g, 3, none⟩ = some (.int .i64 0) := (blk_cell HT9.out.y 3).trans rfl
 have z3 : w9.frozen? ⟨g, 3, none⟩ = false := blk_frozen HT9.out.y 3
 have d0 : w9.cell? ⟨g, 0, none⟩ = some (.int .i64 k) := (blk_cell HT9.out.y 0).trans rfl
 have z0 : w9.frozen? ⟨g, 0, none⟩ = false := blk_frozen HT9.out.y 0
 go_upto_region 28 with fail
 have hT : Fr _ w0 w x g 34 _ #[.int .i64 k, .int .i64 v1, .int .i64 v2, .int .i64 v3, .int .i64 0, .int .i64 0, .int .i64 0, .bool false, .slice none 0 0, .int .i64 0, .int .i64 0, .int .i64 0, .slice none 0 0, .int .i64 0, .int .i64 0, .int .i64 0, .slice none 0 0] _ _ _ := (HT9.out.put 3 (.int .i64 v3))
 have HT10 := Lib.hid hT
 obtain ⟨w10, hw⟩ : ∃ W, (w9.setCell ⟨g, 3, none⟩ (.int .i64 v3)) = W := ⟨_, rfl⟩
 rw [hw] at HT10 ⊢
 clear hT hw HT9 d3 z3 d0 z0
 refine wp_region_list ?_
 refine wpList_load_row rfl 34 (.tmp 3) rfl g rfl 34 #[.int .i64 k, .int .i64 v1, .int .i64 v2, .int .i64 v3, .int .i64 0, .int .i64 0, .int .i64 0, .bool false, .slice none 0 0, .int .i64 0, .int .i64 0, .int .i64 0, .slice none 0 0, .int .i64 0, .int .i64 0, .int .i64 0, .slice none 0 0] (0, 0) _ HT10.out.y Tryz.underlying34 rfl (by kernel_rfl) ?_
 refine wpList_store_row rfl 34 (.tmp 2) (.tmp 78) rfl w.heap.size #[.int .i64 k, .int .i64 v1, .int .i64 v2, .int .i64 v3, .int .i64 0, .int .i64 0, .int .i64 0, .bool false, .slice none 0 0, .int .i64 0, .int .i64 0, .int .i64 0, .slice none 0 0, .int .i64 0, .int .i64 0, .int .i64 0, .slice none 0 0] rfl rfl 34 #[.int .i64 0, .int .i64 0, .int .i64 0, .int .i64 0, .int .i64 0, .int .i64 0, .int .i64 0, .bool false, .slice none 0 0, .int .i64 0, .int .i64 0, .int .i64 0, .slice none 0 0, .int .i64 0, .int .i64 0, .int .i64 0, .slice none 0 0] HT10.out.g0 (by kernel_rfl) rfl (by simp [Value.oneCell']) ?_
 have HD := Lib.hid (HT10.out.fin (cs' := #[.int .i64 k, .int .i64 v1, .int .i64 v2, .int .i64 v3, .int .i64 0, .int .i64 0, .int .i64 0, .bool false, .slice none 0 0, .int .i64 0, .int .i64 0, .int .i64 0, .slice none 0 0, .int .i64 0, .int .i64 0, .int .i64 0, .slice none 0 0]))
 obtain ⟨W, hW⟩ : ∃ W, w10.setRow w.heap.size #[.int .i64 k, .int .i64 v1, .int .i64 v2, .int .i64 v3, .int .i64 0, .int .i64 0, .int .i64 0, .bool false, .slice none 0 0, .int .i64 0, .int .i64 0, .int .i64 0, .slice none 0 0, .int .i64 0, .int .i64 0, .int .i64 0, .slice none 0 0] = W := ⟨_, rfl⟩
 rw [hW] at HD ⊢
 clear hW
 go_wp2_with fail
 refine bodyPost_ret (results_cell_row rfl _ _ w.heap.size 34 #[.int .i64 k, .int .i64 v1, .int .i64 v2, .int .i64 v3, .int .i64 0, .int .i64 0, .int .i64 0, .bool false, .slice none 0 0, .int .i64 0, .int .i64 0, .int .i64 0, .slice none 0 0, .int .i64 0, .int .i64 0, .int .i64 0, .slice none 0 0] (0, 0) _ rfl HD.out.1 Tryz.underlying34 rfl (by kernel_rfl)) rfl ?_
 rw [HF.out]
 obtain ⟨_, hp, i, d, q⟩ := HD.out
 exact ⟨_, _, _, rfl, Kd.R_nil _ _ _ _ _, Kd.R_nil _ _ _ _ _, Kd.R_nil _ _ _ _ _, i, d, q⟩
theorem rdMsg_is {B : List Int} {w0 w : World} {x : Nat} {s : EyeS} (hI : IsRd B w0 w x s) (hB : Below w0.heap.size w0 w) (hok : okS s) :
  Calls Tryz.prog 62 #[.pointer (some ⟨x, 0, none⟩)] w fun e w' => MsP (fun W s => IsRd B w0 W x s) w0 w x (rMsg s).1 (rMsg s).2 e w' := by
 by_cases hn : (rSmall s).1 < 1 ∨ 6 < (rSmall s).1
 ·by_cases he : (rSmall s).2.e = 0
  ·rcases hn with h | h
   ·exact rdMsgL hI hB hok rfl (.inl h) he h
   ·exact rdMsgH hI hB hok rfl (.inr h) he h
  ·exact rdMsgE hI hB hok rfl hn he
 have hz : (rSmall s).1 = (eNum s).1 := by
  unfold rSmall
  split
  ·next h => exfalso; apply hn; left; unfold rSmall; rw [if_pos h]; exact (by decide : (-2147483648 : Int) < 1)
  ·rfl
 have he : (rSmall s).2.e = 0 := by
  rw [rSmall_2]
  by_cases he : (eNum s).2.e = 0
  ·exact he
  ·have := eNum_z he; omega
 by_cases h1 : (rSmall s).1 = 1
 ·exact rdMsg1 hI hB hok h1 he
 by_cases h2 : (rSmall s).1 = 2
 ·exact rdMsg2 hI hB hok h2 he
 by_cases h3 : (rSmall s).1 = 3
 ·exact rdMsg3 hI hB hok h3 he
 by_cases h4 : (rSmall s).1 = 4
 ·exact rdMsg4 hI hB hok h4 he
 by_cases h5 : (rSmall s).1 = 5
 ·exact rdMsg5 hI hB hok h5 he
 exact rdMsg6 hI hB hok (by omega) he
end Go.Proofs.YtgiefblcckikeaaGreat.M
end

section
/- A message without what its kind does not have: record.bare, the reference's plain (printed by genbare04.py). -/
set_option maxRecDepth 100000
attribute [local irreducible] Go.wpStill
namespace Go.Proofs.YtgiefblcckikeaaGreat.M
open Go.RowKit Go.Proofs.YtgiefblcckikeaaGreatW.PrintWords Go.Proofs.YtgiefblcckikeaaGreatW.PrintLast Go.Proofs.YtgiefblcckikeaaGreatW.PrintMore Go.Proofs.YtgiefblcckikeaaGreat.G
set_option maxHeartbeats 4000000 in
theorem plain_k6 {w : World} (m : MsgD) {A8 A12 A16 : Option Addr} {c8 c12 c16 : Nat} (hm : MsgC w m A8 c8 A12 c12 A16 c16) (hk : m.f0 = 6) :
  Calls Tryz.prog 68 #[.agg #[.int .i64 m.f0, .int .i64 m.f1, .int .i64 m.f2, .int .i64 m.f3, .int .i64 m.f4, .int .i64 m.f5, .int .i64 m.f6, .bool m.f7, .slice A8 m.f8.length c8, .int .i64 m.f9.f0, .int .i64 m.f9.f1, .int .i64 m.f9.f2, .slice A12 m.f9.f3.length c12, .int .i64 m.f10.f0, .int .i64 m.f10.f1, .int .i64 m.f10.f2, .slice A16 m.f10.f3.length c16]] w fun e w' => BareP w m e w' := by
 have t6 : (m.f0 == 6) = true := by rw [hk]; rfl
 have t1 : (m.f0 == 1) = false := by rw [hk]; rfl
 have t2 : (m.f0 == 2) = false := by rw [hk]; rfl
 have t3 : (m.f0 == 3) = false := by rw [hk]; rfl
 have t4 : (m.f0 == 4) = false := by rw [hk]; rfl
 have t5 : (m.f0 == 5) = false := by rw [hk]; rfl
 have HK := Lib.hid hk
 clear hk
 have HM := Lib.hid hm
 have HT0 := Lib.hid (bare_start w m A8 A12 A16 c8 c12 c16)
 clear hm
 go_enter Tryz.func68, Tryz.ntmps68
 go_upto_region 2 with fail
 obtain ⟨w0, hw⟩ : ∃ w0, (((w.alloc (.cells #[.int .i64 m.f0, .int .i64 m.f1, .int .i64 m.f2, .int .i64 m.f3, .int .i64 m.f4, .int .i64 m.f5, .int .i64 m.f6, .bool m.f7, .slice A8 m.f8.length c8, .int .i64 m.f9.f0, .int .i64 m.f9.f1, .int .i64 m.f9.f2, .slice A12 m.f9.f3.length c12, .int .i64 m.f10.f0, .int .i64 m.f10.f1, .int .i64 m.f10.f2, .slice A16 m.f10.f3.length c16] 34)).alloc (.cells #[.int .i64 0, .int .i64 0, .int .i64 0, .int .i64 0, .int .i64 0, .int .i64 0, .int .i64 0, .bool false, .slice none 0 0, .int .i64 0, .int .i64 0, .int .i64 0, .slice none 0 0, .int .i64 0, .int .i64 0, .int .i64 0, .slice none 0 0] 34)).alloc (.cells #[.int .i64 m.f0, .int .i64 m.f1, .int .i64 m.f2, .int .i64 0, .int .i64 0, .int .i64 0, .int .i64 0, .bool false, .slice none 0 0, .int .i64 0, .int .i64 0, .int .i64 0, .slice none 0 0, .int .i64 0, .int .i64 0, .int .i64 0, .slice none 0 0] 34)) = w0 := ⟨_, rfl⟩
 obtain ⟨g, hg⟩ : ∃ g, w.heap.size = g := ⟨_, rfl⟩
 have HG := Lib.hid hg
 rw [hw] at HT0 ⊢
 rw [hg] at HT0 ⊢
 clear hw hg
 obtain ⟨a0, a1, a2, a3, a4, a5, a6, a7, a8, a9, a10, a11, a12, a13, a14, a15, a16⟩ := MsBox.cell HT0.out.h.now
 have b9 : w0.cell? ⟨g + 1 + 1, 9, none⟩ = some (.int .i64 0) := (blk_cell HT0.out.y 9).trans rfl
 have z9 : w0.frozen? ⟨g + 1 + 1, 9, none⟩ = false := blk_frozen HT0.out.y 9
 have b10 : w0.cell? ⟨g + 1 + 1, 10, none⟩ = some (.int .i64 0) := (blk_cell HT0.out.y 10).trans rfl
 have z10 : w0.frozen? ⟨g + 1 + 1, 10, none⟩ = false := blk_frozen HT0.out.y 10
 have b11 : w0.cell? ⟨g + 1 + 1, 11, none⟩ = some (.int .i64 0) := (blk_cell HT0.out.y 11).trans rfl
 have z11 : w0.frozen? ⟨g + 1 + 1, 11, none⟩ = false := blk_frozen HT0.out.y 11
 have b12 : w0.cell? ⟨g + 1 + 1, 12, none⟩ = some (.slice none 0 0) := (blk_cell HT0.out.y 12).trans rfl
 have z12 : w0.frozen? ⟨g + 1 + 1, 12, none⟩ = false := blk_frozen HT0.out.y 12
 have hne : g + 1 + 1 ≠ g := by omega
 have hne2 : g ≠ g + 1 + 1 := by omega
 go_upto_region 4 with fail
 have hT : Bx w (g + 1 + 1) (g + 1) 34 #[.int .i64 0, .int .i64 0, .int .i64 0, .int .i64 0, .int .i64 0, .int .i64 0, .int .i64 0, .bool false, .slice none 0 0, .int .i64 0, .int .i64 0, .int .i64 0, .slice none 0 0, .int .i64 0, .int .i64 0, .int .i64 0, .slice none 0 0] #[.int .i64 m.f0, .int .i64 m.f1, .int .i64 m.f2, .int .i64 0, .int .i64 0, .int .i64 0, .int .i64 0, .bool false, .slice none 0 0, .int .i64 m.f9.f0, .int .i64 m.f9.f1, .int .i64 m.f9.f2, .slice A12 m.f9.f3.length c12, .int .i64 0, .int .i64 0, .int .i64 0, .slice none 0 0] _ _ := ((((HT0.out.put 9 (.int .i64 m.f9.f0)).put 10 (.int .i64 m.f9.f1)).put 11 (.int .i64 m.f9.f2)).put 12 (.slice A12 m.f9.f3.length c12))
 have HT1 := Lib.hid hT
 clear hT
 obtain ⟨w1, hw⟩ : ∃ w1, ((((w0.setCell ⟨g + 1 + 1, 9, none⟩ (.int .i64 m.f9.f0)).setCell ⟨g + 1 + 1, 10, none⟩ (.int .i64 m.f9.f1)).setCell ⟨g + 1 + 1, 11, none⟩ (.int .i64 m.f9.f2)).setCell ⟨g + 1 + 1, 12, none⟩ (.slice A12 m.f9.f3.length c12)) = w1 := ⟨_, rfl⟩
 rw [hw] at HT1 ⊢
 clear hw
 refine wp_region_list ?_
 refine wpList_load_row rfl 34 (.tmp 4) rfl (g + 1 + 1) rfl 34 #[.int .i64 m.f0, .int .i64 m.f1, .int .i64 m.f2, .int .i64 0, .int .i64 0, .int .i64 0, .int .i64 0, .bool false, .slice none 0 0, .int .i64 m.f9.f0, .int .i64 m.f9.f1, .int .i64 m.f9.f2, .slice A12 m.f9.f3.length c12, .int .i64 0, .int .i64 0, .int .i64 0, .slice none 0 0] (0, 0) _ HT1.out.y Tryz.underlying34 rfl (by kernel_rfl) ?_
 refine wpList_store_row rfl 34 (.tmp 2) (.tmp 18) rfl (g + 1) #[.int .i64 m.f0, .int .i64 m.f1, .int .i64 m.f2, .int .i64 0, .int .i64 0, .int .i64 0, .int .i64 0, .bool false, .slice none 0 0, .int .i64 m.f9.f0, .int .i64 m.f9.f1, .int .i64 m.f9.f2, .slice A12 m.f9.f3.length c12, .int .i64 0, .int .i64 0, .int .i64 0, .slice none 0 0] rfl rfl 34 #[.int .i64 0, .int .i64 0, .int .i64 0, .int .i64 0, .int .i64 0, .int .i64 0, .int .i64 0, .bool false, .slice none 0 0, .int .i64 0, .int .i64 0, .int .i64 0, .slice none 0 0, .int .i64 0, .int .i64 0, .int .i64 0, .slice none 0 0] HT1.out.g0 (by kernel_rfl) rfl (by simp [Value.oneCell']) ?_
 have HD := Lib.hid (HT1.out.fin (cs' := #[.int .i64 m.f0, .int .i64 m.f1, .int .i64 m.f2, .int .i64 0, .int .i64 0, .int .i64 0, .int .i64 0, .bool false, .slice none 0 0, .int .i64 m.f9.f0, .int .i64 m.f9.f1, .int .i64 m.f9.f2, .slice A12 m.f9.f3.length c12, .int .i64 0, .int .i64 0, .int .i64 0, .slice none 0 0]))
 obtain ⟨W, hW⟩ : ∃ W, w1.setRow (g + 1) #[.int .i64 m.f0, .int .i64 m.f1, .int .i64 m.f2, .int .i64 0, .int .i64 0, .int .i64 0, .int .i64 0, .bool false, .slice none 0 0, .int .i64 m.f9.f0, .int .i64 m.f9.f1, .int .i64 m.f9.f2, .slice A12 m.f9.f3.length c12, .int .i64 0, .int .i64 0, .int .i64 0, .slice none 0 0] = W := ⟨_, rfl⟩
 rw [hW] at HD ⊢
 clear hW
 go_wp2_with fail
 refine bodyPost_ret (results_ct rfl _ _ (g + 1) 34 #[.int .i64 m.f0, .int .i64 m.f1, .int .i64 m.f2, .int .i64 0, .int .i64 0, .int .i64 0, .int .i64 0, .bool false, .slice none 0 0, .int .i64 m.f9.f0, .int .i64 m.f9.f1, .int .i64 m.f9.f2, .slice A12 m.f9.f3.length c12, .int .i64 0, .int .i64 0, .int .i64 0, .slice none 0 0] (0, 0) _ rfl HD.out.1 Tryz.underlying34 rfl (by kernel_rfl)) rfl ?_
 have hik : isKind m.f0 = true := by rw [HK.out]; rfl
 refine ⟨⟨m.f0, m.f1, m.f2, 0, 0, 0, 0, false, [], m.f9, zP⟩, none, A12, none, 0, c12, 0, by rw [hik]; rfl, fun _ => by unfold bareM; simp [HK.out], ⟨Nat.le_refl 0, Kd.C_nil _ _, HM.out.l12, Kd.C_below HM.out.g12 HD.out.2.2, Nat.le_refl 0, Kd.C_nil _ _⟩, HD.out.2.2⟩
set_option maxHeartbeats 4000000 in
theorem plain_k1 {w : World} (m : MsgD) {A8 A12 A16 : Option Addr} {c8 c12 c16 : Nat} (hm : MsgC w m A8 c8 A12 c12 A16 c16) (hk : m.f0 = 1) :
  Calls Tryz.prog 68 #[.agg #[.int .i64 m.f0, .int .i64 m.f1, .int .i64 m.f2, .int .i64 m.f3, .int .i64 m.f4, .int .i64 m.f5, .int .i64 m.f6, .bool m.f7, .slice A8 m.f8.length c8, .int .i64 m.f9.f0, .int .i64 m.f9.f1, .int .i64 m.f9.f2, .slice A12 m.f9.f3.length c12, .int .i64 m.f10.f0, .int .i64 m.f10.f1, .int .i64 m.f10.f2, .slice A16 m.f10.f3.length c16]] w fun e w' => BareP w m e w' := by
 have t6 : (m.f0 == 6) = false := by rw [hk]; rfl
 have t1 : (m.f0 == 1) = true := by rw [hk]; rfl
 have t2 : (m.f0 == 2) = false := by rw [hk]; rfl
 have t3 : (m.f0 == 3) = false := by rw [hk]; rfl
 have t4 : (m.f0 == 4) = false := by rw [hk]; rfl
 have t5 : (m.f0 == 5) = false := by rw [hk]; rfl
 have HK := Lib.hid hk
 clear hk
 have HM := Lib.hid hm
 have HT0 := Lib.hid (bare_start w m A8 A12 A16 c8 c12 c16)
 clear hm
 go_enter Tryz.func68, Tryz.ntmps68
 go_upto_region 2 with fail
 obtain ⟨w0, hw⟩ : ∃ w0, (((w.alloc (.cells #[.int .i64 m.f0, .int .i64 m.f1, .int .i64 m.f2, .int .i64 m.f3, .int .i64 m.f4, .int .i64 m.f5, .int .i64 m.f6, .bool m.f7, .slice A8 m.f8.length c8, .int .i64 m.f9.f0, .int .i64 m.f9.f1, .int .i64 m.f9.f2, .slice A12 m.f9.f3.length c12, .int .i64 m.f10.f0, .int .i64 m.f10.f1, .int .i64 m.f10.f2, .slice A16 m.f10.f3.length c16] 34)).alloc (.cells #[.int .i64 0, .int .i64 0, .int .i64 0, .int .i64 0, .int .i64 0, .int .i64 0, .int .i64 0, .bool false, .slice none 0 0, .int .i64 0, .int .i64 0, .int .i64 0, .slice none 0 0, .int .i64 0, .int .i64 0, .int .i64 0, .slice none 0 0] 34)).alloc (.cells #[.int .i64 m.f0, .int .i64 m.f1, .int .i64 m.f2, .int .i64 0, .int .i64 0, .int .i64 0, .int .i64 0, .bool false, .slice none 0 0, .int .i64 0, .int .i64 0, .int .i64 0, .slice none 0 0, .int .i64 0, .int .i64 0, .int .i64 0, .slice none 0 0] 34)) = w0 := ⟨_, rfl⟩
 obtain ⟨g, hg⟩ : ∃ g, w.heap.size = g := ⟨_, rfl⟩
 have HG := Lib.hid hg
 rw [hw] at HT0 ⊢
 rw [hg] at HT0 ⊢
 clear hw hg
 obtain ⟨a0, a1, a2, a3, a4, a5, a6, a7, a8, a9, a10, a11, a12, a13, a14, a15, a16⟩ := MsBox.cell HT0.out.h.now
 have b3 : w0.cell? ⟨g + 1 + 1, 3, none⟩ = some (.int .i64 0) := (blk_cell HT0.out.y 3).trans rfl
 have z3 : w0.frozen? ⟨g + 1 + 1, 3, none⟩ = false := blk_frozen HT0.out.y 3
 have b4 : w0.cell? ⟨g + 1 + 1, 4, none⟩ = some (.int .i64 0) := (blk_cell HT0.out.y 4).trans rfl
 have z4 : w0.frozen? ⟨g + 1 + 1, 4, none⟩ = false := blk_frozen HT0.out.y 4
 have b5 : w0.cell? ⟨g + 1 + 1, 5, none⟩ = some (.int .i64 0) := (blk_cell HT0.out.y 5).trans rfl
 have z5 : w0.frozen? ⟨g + 1 + 1, 5, none⟩ = false := blk_frozen HT0.out.y 5
 have hne : g + 1 + 1 ≠ g := by omega
 have hne2 : g ≠ g + 1 + 1 := by omega
 go_upto_region 24 with fail
 have hT : Bx w (g + 1 + 1) (g + 1) 34 #[.int .i64 0, .int .i64 0, .int .i64 0, .int .i64 0, .int .i64 0, .int .i64 0, .int .i64 0, .bool false, .slice none 0 0, .int .i64 0, .int .i64 0, .int .i64 0, .slice none 0 0, .int .i64 0, .int .i64 0, .int .i64 0, .slice none 0 0] #[.int .i64 m.f0, .int .i64 m.f1, .int .i64 m.f2, .int .i64 m.f3, .int .i64 m.f4, .int .i64 m.f5, .int .i64 0, .bool false, .slice none 0 0, .int .i64 0, .int .i64 0, .int .i64 0, .slice none 0 0, .int .i64 0, .int .i64 0, .int .i64 0, .slice none 0 0] _ _ := (((HT0.out.put 3 (.int .i64 m.f3)).put 4 (.int .i64 m.f4)).put 5 (.int .i64 m.f5))
 have HT1 := Lib.hid hT
 clear hT
 obtain ⟨w1, hw⟩ : ∃ w1, (((w0.setCell ⟨g + 1 + 1, 3, none⟩ (.int .i64 m.f3)).setCell ⟨g + 1 + 1, 4, none⟩ (.int .i64 m.f4)).setCell ⟨g + 1 + 1, 5, none⟩ (.int .i64 m.f5)) = w1 := ⟨_, rfl⟩
 rw [hw] at HT1 ⊢
 clear hw
 refine wp_region_list ?_
 refine wpList_load_row rfl 34 (.tmp 4) rfl (g + 1 + 1) rfl 34 #[.int .i64 m.f0, .int .i64 m.f1, .int .i64 m.f2, .int .i64 m.f3, .int .i64 m.f4, .int .i64 m.f5, .int .i64 0, .bool false, .slice none 0 0, .int .i64 0, .int .i64 0, .int .i64 0, .slice none 0 0, .int .i64 0, .int .i64 0, .int .i64 0, .slice none 0 0] (0, 0) _ HT1.out.y Tryz.underlying34 rfl (by kernel_rfl) ?_
 refine wpList_store_row rfl 34 (.tmp 2) (.tmp 61) rfl (g + 1) #[.int .i64 m.f0, .int .i64 m.f1, .int .i64 m.f2, .int .i64 m.f3, .int .i64 m.f4, .int .i64 m.f5, .int .i64 0, .bool false, .slice none 0 0, .int .i64 0, .int .i64 0, .int .i64 0, .slice none 0 0, .int .i64 0, .int .i64 0, .int .i64 0, .slice none 0 0] rfl rfl 34 #[.int .i64 0, .int .i64 0, .int .i64 0, .int .i64 0, .int .i64 0, .int .i64 0, .int .i64 0, .bool false, .slice none 0 0, .int .i64 0, .int .i64 0, .int .i64 0, .slice none 0 0, .int .i64 0, .int .i64 0, .int .i64 0, .slice none 0 0] HT1.out.g0 (by kernel_rfl) rfl (by simp [Value.oneCell']) ?_
 have HD := Lib.hid (HT1.out.fin (cs' := #[.int .i64 m.f0, .int .i64 m.f1, .int .i64 m.f2, .int .i64 m.f3, .int .i64 m.f4, .int .i64 m.f5, .int .i64 0, .bool false, .slice none 0 0, .int .i64 0, .int .i64 0, .int .i64 0, .slice none 0 0, .int .i64 0, .int .i64 0, .int .i64 0, .slice none 0 0]))
 obtain ⟨W, hW⟩ : ∃ W, w1.setRow (g + 1) #[.int .i64 m.f0, .int .i64 m.f1, .int .i64 m.f2, .int .i64 m.f3, .int .i64 m.f4, .int .i64 m.f5, .int .i64 0, .bool false, .slice none 0 0, .int .i64 0, .int .i64 0, .int .i64 0, .slice none 0 0, .int .i64 0, .int .i64 0, .int .i64 0, .slice none 0 0] = W := ⟨_, rfl⟩
 rw [hW] at HD ⊢
 clear hW
 go_wp2_with fail
 refine bodyPost_ret (results_ct rfl _ _ (g + 1) 34 #[.int .i64 m.f0, .int .i64 m.f1, .int .i64 m.f2, .int .i64 m.f3, .int .i64 m.f4, .int .i64 m.f5, .int .i64 0, .bool false, .slice none 0 0, .int .i64 0, .int .i64 0, .int .i64 0, .slice none 0 0, .int .i64 0, .int .i64 0, .int .i64 0, .slice none 0 0] (0, 0) _ rfl HD.out.1 Tryz.underlying34 rfl (by kernel_rfl)) rfl ?_
 have hik : isKind m.f0 = true := by rw [HK.out]; rfl
 refine ⟨⟨m.f0, m.f1, m.f2, m.f3, m.f4, m.f5, 0, false, [], zE, zP⟩, none, none, none, 0, 0, 0, by rw [hik]; rfl, fun _ => by unfold bareM; simp [HK.out], ⟨Nat.le_refl 0, Kd.C_nil _ _, Nat.le_refl 0, Kd.C_nil _ _, Nat.le_refl 0, Kd.C_nil _ _⟩, HD.out.2.2⟩
set_option maxHeartbeats 4000000 in
theorem plain_k2 {w : World} (m : MsgD) {A8 A12 A16 : Option Addr} {c8 c12 c16 : Nat} (hm : MsgC w m A8 c8 A12 c12 A16 c16) (hk : m.f0 = 2) :
  Calls Tryz.prog 68 #[.agg #[.int .i64 m.f0, .int .i64 m.f1, .int .i64 m.f2, .int .i64 m.f3, .int .i64 m.f4, .int .i64 m.f5, .int .i64 m.f6, .bool m.f7, .slice A8 m.f8.length c8, .int .i64 m.f9.f0, .int .i64 m.f9.f1, .int .i64 m.f9.f2, .slice A12 m.f9.f3.length c12, .int .i64 m.f10.f0, .int .i64 m.f10.f1, .int .i64 m.f10.f2, .slice A16 m.f10.f3.length c16]] w fun e w' => BareP w m e w' := by
 have t6 : (m.f0 == 6) = false := by rw [hk]; rfl
 have t1 : (m.f0 == 1) = false := by rw [hk]; rfl
 have t2 : (m.f0 == 2) = true := by rw [hk]; rfl
 have t3 : (m.f0 == 3) = false := by rw [hk]; rfl
 have t4 : (m.f0 == 4) = false := by rw [hk]; rfl
 have t5 : (m.f0 == 5) = false := by rw [hk]; rfl
 have HK := Lib.hid hk
 clear hk
 have HM := Lib.hid hm
 have HT0 := Lib.hid (bare_start w m A8 A12 A16 c8 c12 c16)
 clear hm
 go_enter Tryz.func68, Tryz.ntmps68
 go_upto_region 2 with fail
 obtain ⟨w0, hw⟩ : ∃ w0, (((w.alloc (.cells #[.int .i64 m.f0, .int .i64 m.f1, .int .i64 m.f2, .int .i64 m.f3, .int .i64 m.f4, .int .i64 m.f5, .int .i64 m.f6, .bool m.f7, .slice A8 m.f8.length c8, .int .i64 m.f9.f0, .int .i64 m.f9.f1, .int .i64 m.f9.f2, .slice A12 m.f9.f3.length c12, .int .i64 m.f10.f0, .int .i64 m.f10.f1, .int .i64 m.f10.f2, .slice A16 m.f10.f3.length c16] 34)).alloc (.cells #[.int .i64 0, .int .i64 0, .int .i64 0, .int .i64 0, .int .i64 0, .int .i64 0, .int .i64 0, .bool false, .slice none 0 0, .int .i64 0, .int .i64 0, .int .i64 0, .slice none 0 0, .int .i64 0, .int .i64 0, .int .i64 0, .slice none 0 0] 34)).alloc (.cells #[.int .i64 m.f0, .int .i64 m.f1, .int .i64 m.f2, .int .i64 0, .int .i64 0, .int .i64 0, .int .i64 0, .bool false, .slice none 0 0, .int .i64 0, .int .i64 0, .int .i64 0, .slice none 0 0, .int .i64 0, .int .i64 0, .int .i64 0, .slice none 0 0] 34)) = w0 := ⟨_, rfl⟩
 obtain ⟨g, hg⟩ : ∃ g, w.heap.size = g := ⟨_, rfl⟩
 have HG := Lib.hid hg
 rw [hw] at HT0 ⊢
 rw [hg] at HT0 ⊢
 clear hw hg
 obtain ⟨a0, a1, a2, a3, a4, a5, a6, a7, a8, a9, a10, a11, a12, a13, a14, a15, a16⟩ := MsBox.cell HT0.out.h.now
 have b3 : w0.cell? ⟨g + 1 + 1, 3, none⟩ = some (.int .i64 0) := (blk_cell HT0.out.y 3).trans rfl
 have z3 : w0.frozen? ⟨g + 1 + 1, 3, none⟩ = false := blk_frozen HT0.out.y 3
 have b7 : w0.cell? ⟨g + 1 + 1, 7, none⟩ = some (.bool false) := (blk_cell HT0.out.y 7).trans rfl
 have z7 : w0.frozen? ⟨g + 1 + 1, 7, none⟩ = false := blk_frozen HT0.out.y 7
 have hne : g + 1 + 1 ≠ g := by omega
 have hne2 : g ≠ g + 1 + 1 := by omega
 go_upto_region 24 with fail
 have hT : Bx w (g + 1 + 1) (g + 1) 34 #[.int .i64 0, .int .i64 0, .int .i64 0, .int .i64 0, .int .i64 0, .int .i64 0, .int .i64 0, .bool false, .slice none 0 0, .int .i64 0, .int .i64 0, .int .i64 0, .slice none 0 0, .int .i64 0, .int .i64 0, .int .i64 0, .slice none 0 0] #[.int .i64 m.f0, .int .i64 m.f1, .int .i64 m.f2, .int .i64 m.f3, .int .i64 0, .int .i64 0, .int .i64 0, .bool m.f7, .slice none 0 0, .int .i64 0, .int .i64 0, .int .i64 0, .slice none 0 0, .int .i64 0, .int .i64 0, .int .i64 0, .slice none 0 0] _ _ := ((HT0.out.put 3 (.int .i64 m.f3)).put 7 (.bool m.f7))
 have HT1 := Lib.hid hT
 clear hT
 obtain ⟨w1, hw⟩ : ∃ w1, ((w0.setCell ⟨g + 1 + 1, 3, none⟩ (.int .i64 m.f3)).setCell ⟨g + 1 + 1, 7, none⟩ (.bool m.f7)) = w1 := ⟨_, rfl⟩
 rw [hw] at HT1 ⊢
 clear hw
 refine wp_region_list ?_
 refine wpList_load_row rfl 34 (.tmp 4) rfl (g + 1 + 1) rfl 34 #[.int .i64 m.f0, .int .i64 m.f1, .int .i64 m.f2, .int .i64 m.f3, .int .i64 0, .int .i64 0, .int .i64 0, .bool m.f7, .slice none 0 0, .int .i64 0, .int .i64 0, .int .i64 0, .slice none 0 0, .int .i64 0, .int .i64 0, .int .i64 0, .slice none 0 0] (0, 0) _ HT1.out.y Tryz.underlying34 rfl (by kernel_rfl) ?_
 refine wpList_store_row rfl 34 (.tmp 2) (.tmp 61) rfl (g + 1) #[.int .i64 m.f0, .int .i64 m.f1, .int .i64 m.f2, .int .i64 m.f3, .int .i64 0, .int .i64 0, .int .i64 0, .bool m.f7, .slice none 0 0, .int .i64 0, .int .i64 0, .int .i64 0, .slice none 0 0, .int .i64 0, .int .i64 0, .int .i64 0, .slice none 0 0] rfl rfl 34 #[.int .i64 0, .int .i64 0, .int .i64 0, .int .i64 0, .int .i64 0, .int .i64 0, .int .i64 0, .bool false, .slice none 0 0, .int .i64 0, .int .i64 0, .int .i64 0, .slice none 0 0, .int .i64 0, .int .i64 0, .int .i64 0, .slice none 0 0] HT1.out.g0 (by kernel_rfl) rfl (by simp [Value.oneCell']) ?_
 have HD := Lib.hid (HT1.out.fin (cs' := #[.int .i64 m.f0, .int .i64 m.f1, .int .i64 m.f2, .int .i64 m.f3, .int .i64 0, .int .i64 0, .int .i64 0, .bool m.f7, .slice none 0 0, .int .i64 0, .int .i64 0, .int .i64 0, .slice none 0 0, .int .i64 0, .int .i64 0, .int .i64 0, .slice none 0 0]))
 obtain ⟨W, hW⟩ : ∃ W, w1.setRow (g + 1) #[.int .i64 m.f0, .int .i64 m.f1, .int .i64 m.f2, .int .i64 m.f3, .int .i64 0, .int .i64 0, .int .i64 0, .bool m.f7, .slice none 0 0, .int .i64 0, .int .i64 0, .int .i64 0, .slice none 0 0, .int .i64 0, .int .i64 0, .int .i64 0, .slice none 0 0] = W := ⟨_, rfl⟩
 rw [hW] at HD ⊢
 clear hW
 go_wp2_with fail
 refine bodyPost_ret (results_ct rfl _ _ (g + 1) 34 #[.int .i64 m.f0, .int .i64 m.f1, .int .i64 m.f2, .int .i64 m.f3, .int .i64 0, .int .i64 0, .int .i64 0, .bool m.f7, .slice none 0 0, .int .i64 0, .int .i64 0, .int .i64 0, .slice none 0 0, .int .i64 0, .int .i64 0, .int .i64 0, .slice none 0 0] (0, 0) _ rfl HD.out.1 Tryz.underlying34 rfl (by kernel_rfl)) rfl ?_
 have hik : isKind m.f0 = true := by rw [HK.out]; rfl
 refine ⟨⟨m.f0, m.f1, m.f2, m.f3, 0, 0, 0, m.f7, [], zE, zP⟩, none, none, none, 0, 0, 0, by rw [hik]; rfl, fun _ => by unfold bareM; simp [HK.out], ⟨Nat.le_refl 0, Kd.C_nil _ _, Nat.le_refl 0, Kd.C_nil _ _, Nat.le_refl 0, Kd.C_nil _ _⟩, HD.out.2.2⟩
set_option maxHeartbeats 4000000 in
theorem plain_k3 {w : World} (m : MsgD) {A8 A12 A16 : Option Addr} {c8 c12 c16 : Nat} (hm : MsgC w m A8 c8 A12 c12 A16 c16) (hk : m.f0 = 3) :
  Calls Tryz.prog 68 #[.agg #[.int .i64 m.f0, .int .i64 m.f1, .int .i64 m.f2, .int .i64 m.f3, .int .i64 m.f4, .int .i64 m.f5, .int .i64 m.f6, .bool m.f7, .slice A8 m.f8.length c8, .int .i64 m.f9.f0, .int .i64 m.f9.f1, .int .i64 m.f9.f2, .slice A12 m.f9.f3.length c12, .int .i64 m.f10.f0, .int .i64 m.f10.f1, .int .i64 m.f10.f2, .slice A16 m.f10.f3.length c16]] w fun e w' => BareP w m e w' := by
 have t6 : (m.f0 == 6) = false := by rw [hk]; rfl
 have t1 : (m.f0 == 1) = false := by rw [hk]; rfl
 have t2 : (m.f0 == 2) = false := by rw [hk]; rfl
 have t3 : (m.f0 == 3) = true := by rw [hk]; rfl
 have t4 : (m.f0 == 4) = false := by rw [hk]; rfl
 have t5 : (m.f0 == 5) = false := by rw [hk]; rfl
 have HK := Lib.hid hk
 clear hk
 have HM := Lib.hid hm
 have HT0 := Lib.hid (bare_start w m A8 A12 A16 c8 c12 c16)
 clear hm
 go_enter Tryz.func68, Tryz.ntmps68
 go_upto_region 2 with fail
 obtain ⟨w0, hw⟩ : ∃ w0, (((w.alloc (.cells #[.int .i64 m.f0, .int .i64 m.f1, .int .i64 m.f2, .int .i64 m.f3, .int .i64 m.f4, .int .i64 m.f5, .int .i64 m.f6, .bool m.f7, .slice A8 m.f8.length c8, .int .i64 m.f9.f0, .int .i64 m.f9.f1, .int .i64 m.f9.f2, .slice A12 m.f9.f3.length c12, .int .i64 m.f10.f0, .int .i64 m.f10.f1, .int .i64 m.f10.f2, .slice A16 m.f10.f3.length c16] 34)).alloc (.cells #[.int .i64 0, .int .i64 0, .int .i64 0, .int .i64 0, .int .i64 0, .int .i64 0, .int .i64 0, .bool false, .slice none 0 0, .int .i64 0, .int .i64 0, .int .i64 0, .slice none 0 0, .int .i64 0, .int .i64 0, .int .i64 0, .slice none 0 0] 34)).alloc (.cells #[.int .i64 m.f0, .int .i64 m.f1, .int .i64 m.f2, .int .i64 0, .int .i64 0, .int .i64 0, .int .i64 0, .bool false, .slice none 0 0, .int .i64 0, .int .i64 0, .int .i64 0, .slice none 0 0, .int .i64 0, .int .i64 0, .int .i64 0, .slice none 0 0] 34)) = w0 := ⟨_, rfl⟩
 obtain ⟨g, hg⟩ : ∃ g, w.heap.size = g := ⟨_, rfl⟩
 have HG := Lib.hid hg
 rw [hw] at HT0 ⊢
 rw [hg] at HT0 ⊢
 clear hw hg
 obtain ⟨a0, a1, a2, a3, a4, a5, a6, a7, a8, a9, a10, a11, a12, a13, a14, a15, a16⟩ := MsBox.cell HT0.out.h.now
 have b3 : w0.cell? ⟨g + 1 + 1, 3, none⟩ = some (.int .i64 0) := (blk_cell HT0.out.y 3).trans rfl
 have z3 : w0.frozen? ⟨g + 1 + 1, 3, none⟩ = false := blk_frozen HT0.out.y 3
 have b4 : w0.cell? ⟨g + 1 + 1, 4, none⟩ = some (.int .i64 0) := (blk_cell HT0.out.y 4).trans rfl
 have z4 : w0.frozen? ⟨g + 1 + 1, 4, none⟩ = false := blk_frozen HT0.out.y 4
 have b5 : w0.cell? ⟨g + 1 + 1, 5, none⟩ = some (.int .i64 0) := (blk_cell HT0.out.y 5).trans rfl
 have z5 : w0.frozen? ⟨g + 1 + 1, 5, none⟩ = false := blk_frozen HT0.out.y 5
 have b6 : w0.cell? ⟨g + 1 + 1, 6, none⟩ = some (.int .i64 0) := (blk_cell HT0.out.y 6).trans rfl
 have z6 : w0.frozen? ⟨g + 1 + 1, 6, none⟩ = false := blk_frozen HT0.out.y 6
 have b8 : w0.cell? ⟨g + 1 + 1, 8, none⟩ = some (.slice none 0 0) := (blk_cell HT0.out.y 8).trans rfl
 have z8 : w0.frozen? ⟨g + 1 + 1, 8, none⟩ = false := blk_frozen HT0.out.y 8
 have hne : g + 1 + 1 ≠ g := by omega
 have hne2 : g ≠ g + 1 + 1 := by omega
 go_upto_region 24 with fail
 have hT : Bx w (g + 1 + 1) (g + 1) 34 #[.int .i64 0, .int .i64 0, .int .i64 0, .int .i64 0, .int .i64 0, .int .i64 0, .int .i64 0, .bool false, .slice none 0 0, .int .i64 0, .int .i64 0, .int .i64 0, .slice none 0 0, .int .i64 0, .int .i64 0, .int .i64 0, .slice none 0 0] #[.int .i64 m.f0, .int .i64 m.f1, .int .i64 m.f2, .int .i64 m.f3, .int .i64 m.f4, .int .i64 m.f5, .int .i64 m.f6, .bool false, .slice A8 m.f8.length c8, .int .i64 0, .int .i64 0, .int .i64 0, .slice none 0 0, .int .i64 0, .int .i64 0, .int .i64 0, .slice none 0 0] _ _ := (((((HT0.out.put 3 (.int .i64 m.f3)).put 4 (.int .i64 m.f4)).put 5 (.int .i64 m.f5)).put 6 (.int .i64 m.f6)).put 8 (.slice A8 m.f8.length c8))
 have HT1 := Lib.hid hT
 clear hT
 obtain ⟨w1, hw⟩ : ∃ w1, (((((w0.setCell ⟨g + 1 + 1, 3, none⟩ (.int .i64 m.f3)).setCell ⟨g + 1 + 1, 4, none⟩ (.int .i64 m.f4)).setCell ⟨g + 1 + 1, 5, none⟩ (.int .i64 m.f5)).setCell ⟨g + 1 + 1, 6, none⟩ (.int .i64 m.f6)).setCell ⟨g + 1 + 1, 8, none⟩ (.slice A8 m.f8.length c8)) = w1 := ⟨_, rfl⟩
 rw [hw] at HT1 ⊢
 clear hw
 refine wp_region_list ?_
 refine wpList_load_row rfl 34 (.tmp 4) rfl (g + 1 + 1) rfl 34 #[.int .i64 m.f0, .int .i64 m.f1, .int .i64 m.f2, .int .i64 m.f3, .int .i64 m.f4, .int .i64 m.f5, .int .i64 m.f6, .bool false, .slice A8 m.f8.length c8, .int .i64 0, .int .i64 0, .int .i64 0, .slice none 0 0, .int .i64 0, .int .i64 0, .int .i64 0, .slice none 0 0] (0, 0) _ HT1.out.y Tryz.underlying34 rfl (by kernel_rfl) ?_
 refine wpList_store_row rfl 34 (.tmp 2) (.tmp 61) rfl (g + 1) #[.int .i64 m.f0, .int .i64 m.f1, .int .i64 m.f2, .int .i64 m.f3, .int .i64 m.f4, .int .i64 m.f5, .int .i64 m.f6, .bool false, .slice A8 m.f8.length c8, .int .i64 0, .int .i64 0, .int .i64 0, .slice none 0 0, .int .i64 0, .int .i64 0, .int .i64 0, .slice none 0 0] rfl rfl 34 #[.int .i64 0, .int .i64 0, .int .i64 0, .int .i64 0, .int .i64 0, .int .i64 0, .int .i64 0, .bool false, .slice none 0 0, .int .i64 0, .int .i64 0, .int .i64 0, .slice none 0 0, .int .i64 0, .int .i64 0, .int .i64 0, .slice none 0 0] HT1.out.g0 (by kernel_rfl) rfl (by simp [Value.oneCell']) ?_
 have HD := Lib.hid (HT1.out.fin (cs' := #[.int .i64 m.f0, .int .i64 m.f1, .int .i64 m.f2, .int .i64 m.f3, .int .i64 m.f4, .int .i64 m.f5, .int .i64 m.f6, .bool false, .slice A8 m.f8.length c8, .int .i64 0, .int .i64 0, .int .i64 0, .slice none 0 0, .int .i64 0, .int .i64 0, .int .i64 0, .slice none 0 0]))
 obtain ⟨W, hW⟩ : ∃ W, w1.setRow (g + 1) #[.int .i64 m.f0, .int .i64 m.f1, .int .i64 m.f2, .int .i64 m.f3, .int .i64 m.f4, .int .i64 m.f5, .int .i64 m.f6, .bool false, .slice A8 m.f8.length c8, .int .i64 0, .int .i64 0, .int .i64 0, .slice none 0 0, .int .i64 0, .int .i64 0, .int .i64 0, .slice none 0 0] = W := ⟨_, rfl⟩
 rw [hW] at HD ⊢
 clear hW
 go_wp2_with fail
 refine bodyPost_ret (results_ct rfl _ _ (g + 1) 34 #[.int .i64 m.f0, .int .i64 m.f1, .int .i64 m.f2, .int .i64 m.f3, .int .i64 m.f4, .int .i64 m.f5, .int .i64 m.f6, .bool false, .slice A8 m.f8.length c8, .int .i64 0, .int .i64 0, .int .i64 0, .slice none 0 0, .int .i64 0, .int .i64 0, .int .i64 0, .slice none 0 0] (0, 0) _ rfl HD.out.1 Tryz.underlying34 rfl (by kernel_rfl)) rfl ?_
 have hik : isKind m.f0 = true := by rw [HK.out]; rfl
 refine ⟨⟨m.f0, m.f1, m.f2, m.f3, m.f4, m.f5, m.f6, false, m.f8, zE, zP⟩, A8, none, none, c8, 0, 0, by rw [hik]; rfl, fun _ => by unfold bareM; simp [HK.out], ⟨HM.out.l8, Kd.C_below HM.out.g8 HD.out.2.2, Nat.le_refl 0, Kd.C_nil _ _, Nat.le_refl 0, Kd.C_nil _ _⟩, HD.out.2.2⟩
set_option maxHeartbeats 4000000 in
theorem plain_k4 {w : World} (m : MsgD) {A8 A12 A16 : Option Addr} {c8 c12 c16 : Nat} (hm : MsgC w m A8 c8 A12 c12 A16 c16) (hk : m.f0 = 4) :
  Calls Tryz.prog 68 #[.agg #[.int .i64 m.f0, .int .i64 m.f1, .int .i64 m.f2, .int .i64 m.f3, .int .i64 m.f4, .int .i64 m.f5, .int .i64 m.f6, .bool m.f7, .slice A8 m.f8.length c8, .int .i64 m.f9.f0, .int .i64 m.f9.f1, .int .i64 m.f9.f2, .slice A12 m.f9.f3.length c12, .int .i64 m.f10.f0, .int .i64 m.f10.f1, .int .i64 m.f10.f2, .slice A16 m.f10.f3.length c16]] w fun e w' => BareP w m e w' := by
 have t6 : (m.f0 == 6) = false := by rw [hk]; rfl
 have t1 : (m.f0 == 1) = false := by rw [hk]; rfl
 have t2 : (m.f0 == 2) = false := by rw [hk]; rfl
 have t3 : (m.f0 == 3) = false := by rw [hk]; rfl
 have t4 : (m.f0 == 4) = true := by rw [hk]; rfl
 have t5 : (m.f0 == 5) = false := by rw [hk]; rfl
 have HK := Lib.hid hk
 clear hk
 have HM := Lib.hid hm
 have HT0 := Lib.hid (bare_start w m A8 A12 A16 c8 c12 c16)
 clear hm
 go_enter Tryz.func68, Tryz.ntmps68
 go_upto_region 2 with fail
 obtain ⟨w0, hw⟩ : ∃ w0, (((w.alloc (.cells #[.int .i64 m.f0, .int .i64 m.f1, .int .i64 m.f2, .int .i64 m.f3, .int .i64 m.f4, .int .i64 m.f5, .int .i64 m.f6, .bool m.f7, .slice A8 m.f8.length c8, .int .i64 m.f9.f0, .int .i64 m.f9.f1, .int .i64 m.f9.f2, .slice A12 m.f9.f3.length c12, .int .i64 m.f10.f0, .int .i64 m.f10.f1, .int .i64 m.f10.f2, .slice A16 m.f10.f3.length c16] 34)).alloc (.cells #[.int .i64 0, .int .i64 0, .int .i64 0, .int .i64 0, .int .i64 0, .int .i64 0, .int .i64 0, .bool false, .slice none 0 0, .int .i64 0, .int .i64 0, .int .i64 0, .slice none 0 0, .int .i64 0, .int .i64 0, .int .i64 0, .slice none 0 0] 34)).alloc (.cells #[.int .i64 m.f0, .int .i64 m.f1, .int .i64 m.f2, .int .i64 0, .int .i64 0, .int .i64 0, .int .i64 0, .bool false, .slice none 0 0, .int .i64 0, .int .i64 0, .int .i64 0, .slice none 0 0, .int .i64 0, .int .i64 0, .int .i64 0, .slice none 0 0] 34)) = w0 := ⟨_, rfl⟩
 obtain ⟨g, hg⟩ : ∃ g, w.heap.size = g := ⟨_, rfl⟩
 have HG := Lib.hid hg
 rw [hw] at HT0 ⊢
 rw [hg] at HT0 ⊢
 clear hw hg
 obtain ⟨a0, a1, a2, a3, a4, a5, a6, a7, a8, a9, a10, a11, a12, a13, a14, a15, a16⟩ := MsBox.cell HT0.out.h.now
 have b3 : w0.cell? ⟨g + 1 + 1, 3, none⟩ = some (.int .i64 0) := (blk_cell HT0.out.y 3).trans rfl
 have z3 : w0.frozen? ⟨g + 1 + 1, 3, none⟩ = false := blk_frozen HT0.out.y 3
 have b7 : w0.cell? ⟨g + 1 + 1, 7, none⟩ = some (.bool false) := (blk_cell HT0.out.y 7).trans rfl
 have z7 : w0.frozen? ⟨g + 1 + 1, 7, none⟩ = false := blk_frozen HT0.out.y 7
 have b4 : w0.cell? ⟨g + 1 + 1, 4, none⟩ = some (.int .i64 0) := (blk_cell HT0.out.y 4).trans rfl
 have z4 : w0.frozen? ⟨g + 1 + 1, 4, none⟩ = false := blk_frozen HT0.out.y 4
 have hne : g + 1 + 1 ≠ g := by omega
 have hne2 : g ≠ g + 1 + 1 := by omega
 go_upto_region 24 with fail
 have hT : Bx w (g + 1 + 1) (g + 1) 34 #[.int .i64 0, .int .i64 0, .int .i64 0, .int .i64 0, .int .i64 0, .int .i64 0, .int .i64 0, .bool false, .slice none 0 0, .int .i64 0, .int .i64 0, .int .i64 0, .slice none 0 0, .int .i64 0, .int .i64 0, .int .i64 0, .slice none 0 0] #[.int .i64 m.f0, .int .i64 m.f1, .int .i64 m.f2, .int .i64 m.f3, .int .i64 m.f4, .int .i64 0, .int .i64 0, .bool m.f7, .slice none 0 0, .int .i64 0, .int .i64 0, .int .i64 0, .slice none 0 0, .int .i64 0, .int .i64 0, .int .i64 0, .slice none 0 0] _ _ := (((HT0.out.put 3 (.int .i64 m.f3)).put 7 (.bool m.f7)).put 4 (.int .i64 m.f4))
 have HT1 := Lib.hid hT
 clear hT
 obtain ⟨w1, hw⟩ : ∃ w1, (((w0.setCell ⟨g + 1 + 1, 3, none⟩ (.int .i64 m.f3)).setCell ⟨g + 1 + 1, 7, none⟩ (.bool m.f7)).setCell ⟨g + 1 + 1, 4, none⟩ (.int .i64 m.f4)) = w1 := ⟨_, rfl⟩
 rw [hw] at HT1 ⊢
 clear hw
 refine wp_region_list ?_
 refine wpList_load_row rfl 34 (.tmp 4) rfl (g + 1 + 1) rfl 34 #[.int .i64 m.f0, .int .i64 m.f1, .int .i64 m.f2, .int .i64 m.f3, .int .i64 m.f4, .int .i64 0, .int .i64 0, .bool m.f7, .slice none 0 0, .int .i64 0, .int .i64 0, .int .i64 0, .slice none 0 0, .int .i64 0, .int .i64 0, .int .i64 0, .slice none 0 0] (0, 0) _ HT1.out.y Tryz.underlying34 rfl (by kernel_rfl) ?_
 refine wpList_store_row rfl 34 (.tmp 2) (.tmp 61) rfl (g + 1) #[.int .i64 m.f0, .int .i64 m.f1, .int .i64 m.f2, .int .i64 m.f3, .int .i64 m.f4, .int .i64 0, .int .i64 0, .bool m.f7, .slice none 0 0, .int .i64 0, .int .i64 0, .int .i64 0, .slice none 0 0, .int .i64 0, .int .i64 0, .int .i64 0, .slice none 0 0] rfl rfl 34 #[.int .i64 0, .int .i64 0, .int .i64 0, .int .i64 0, .int .i64 0, .int .i64 0, .int .i64 0, .bool false, .slice none 0 0, .int .i64 0, .int .i64 0, .int .i64 0, .slice none 0 0, .int .i64 0, .int .i64 0, .int .i64 0, .slice none 0 0] HT1.out.g0 (by kernel_rfl) rfl (by simp [Value.oneCell']) ?_
 have HD := Lib.hid (HT1.out.fin (cs' := #[.int .i64 m.f0, .int .i64 m.f1, .int .i64 m.f2, .int .i64 m.f3, .int .i64 m.f4, .int .i64 0, .int .i64 0, .bool m.f7, .slice none 0 0, .int .i64 0, .int .i64 0, .int .i64 0, .slice none 0 0, .int .i64 0, .int .i64 0, .int .i64 0, .slice none 0 0]))
 obtain ⟨W, hW⟩ : ∃ W, w1.setRow (g + 1) #[.int .i64 m.f0, .int .i64 m.f1, .int .i64 m.f2, .int .i64 m.f3, .int .i64 m.f4, .int .i64 0, .int .i64 0, .bool m.f7, .slice none 0 0, .int .i64 0, .int .i64 0, .int .i64 0, .slice none 0 0, .int .i64 0, .int .i64 0, .int .i64 0, .slice none 0 0] = W := ⟨_, rfl⟩
 rw [hW] at HD ⊢
 clear hW
 go_wp2_with fail
 refine bodyPost_ret (results_ct rfl _ _ (g + 1) 34 #[.int .i64 m.f0, .int .i64 m.f1, .int .i64 m.f2, .int .i64 m.f3, .int .i64 m.f4, .int .i64 0, .int .i64 0, .bool m.f7, .slice none 0 0, .int .i64 0, .int .i64 0, .int .i64 0, .slice none 0 0, .int .i64 0, .int .i64 0, .int .i64 0, .slice none 0 0] (0, 0) _ rfl HD.out.1 Tryz.underlying34 rfl (by kernel_rfl)) rfl ?_
 have hik : isKind m.f0 = true := by rw [HK.out]; rfl
 refine ⟨⟨m.f0, m.f1, m.f2, m.f3, m.f4, 0, 0, m.f7, [], zE, zP⟩, none, none, none, 0, 0, 0, by rw [hik]; rfl, fun _ => by unfold bareM; simp [HK.out], ⟨Nat.le_refl 0, Kd.C_nil _ _, Nat.le_refl 0, Kd.C_nil _ _, Nat.le_refl 0, Kd.C_nil _ _⟩, HD.out.2.2⟩
set_option maxHeartbeats 4000000 in
theorem plain_k5 {w : World} (m : MsgD) {A8 A12 A16 : Option Addr} {c8 c12 c16 : Nat} (hm : MsgC w m A8 c8 A12 c12 A16 c16) (hk : m.f0 = 5) :
  Calls Tryz.prog 68 #[.agg #[.int .i64 m.f0, .int .i64 m.f1, .int .i64 m.f2, .int .i64 m.f3, .int .i64 m.f4, .int .i64 m.f5, .int .i64 m.f6, .bool m.f7, .slice A8 m.f8.length c8, .int .i64 m.f9.f0, .int .i64 m.f9.f1, .int .i64 m.f9.f2, .slice A12 m.f9.f3.length c12, .int .i64 m.f10.f0, .int .i64 m.f10.f1, .int .i64 m.f10.f2, .slice A16 m.f10.f3.length c16]] w fun e w' => BareP w m e w' := by
 have t6 : (m.f0 == 6) = false := by rw [hk]; rfl
 have t1 : (m.f0 == 1) = false := by rw [hk]; rfl
 have t2 : (m.f0 == 2) = false := by rw [hk]; rfl
 have t3 : (m.f0 == 3) = false := by rw [hk]; rfl
 have t4 : (m.f0 == 4) = false := by rw [hk]; rfl
 have t5 : (m.f0 == 5) = true := by rw [hk]; rfl
 have HK := Lib.hid hk
 clear hk
 have HM := Lib.hid hm
 have HT0 := Lib.hid (bare_start w m A8 A12 A16 c8 c12 c16)
 clear hm
 go_enter Tryz.func68, Tryz.ntmps68
 go_upto_region 2 with fail
 obtain ⟨w0, hw⟩ : ∃ w0, (((w.alloc (.cells #[.int .i64 m.f0, .int .i64 m.f1, .int .i64 m.f2, .int .i64 m.f3, .int .i64 m.f4, .int .i64 m.f5, .int .i64 m.f6, .bool m.f7, .slice A8 m.f8.length c8, .int .i64 m.f9.f0, .int .i64 m.f9.f1, .int .i64 m.f9.f2, .slice A12 m.f9.f3.length c12, .int .i64 m.f10.f0, .int .i64 m.f10.f1, .int .i64 m.f10.f2, .slice A16 m.f10.f3.length c16] 34)).alloc (.cells #[.int .i64 0, .int .i64 0, .int .i64 0, .int .i64 0, .int .i64 0, .int .i64 0, .int .i64 0, .bool false, .slice none 0 0, .int .i64 0, .int .i64 0, .int .i64 0, .slice none 0 0, .int .i64 0, .int .i64 0, .int .i64 0, .slice none 0 0] 34)).alloc (.cells #[.int .i64 m.f0, .int .i64 m.f1, .int .i64 m.f2, .int .i64 0, .int .i64 0, .int .i64 0, .int .i64 0, .bool false, .slice none 0 0, .int .i64 0, .int .i64 0, .int .i64 0, .slice none 0 0, .int .i64 0, .int .i64 0, .int .i64 0, .slice none 0 0] 34)) = w0 := ⟨_, rfl⟩
 obtain ⟨g, hg⟩ : ∃ g, w.heap.size = g := ⟨_, rfl⟩
 have HG := Lib.hid hg
 rw [hw] at HT0 ⊢
 rw [hg] at HT0 ⊢
 clear hw hg
 obtain ⟨a0, a1, a2, a3, a4, a5, a6, a7, a8, a9, a10, a11, a12, a13, a14, a15, a16⟩ := MsBox.cell HT0.out.h.now
 have b3 : w0.cell? ⟨g + 1 + 1, 3, none⟩ = some (.int .i64 0) := (blk_cell HT0.out.y 3).trans rfl
 have z3 : w0.frozen? ⟨g + 1 + 1, 3, none⟩ = false := blk_frozen HT0.out.y 3
 have b4 : w0.cell? ⟨g + 1 + 1, 4, none⟩ = some (.int .i64 0) := (blk_cell HT0.out.y 4).trans rfl
 have z4 : w0.frozen? ⟨g + 1 + 1, 4, none⟩ = false := blk_frozen HT0.out.y 4
 have b5 : w0.cell? ⟨g + 1 + 1, 5, none⟩ = some (.int .i64 0) := (blk_cell HT0.out.y 5).trans rfl
 have z5 : w0.frozen? ⟨g + 1 + 1, 5, none⟩ = false := blk_frozen HT0.out.y 5
 have b13 : w0.cell? ⟨g + 1 + 1, 13, none⟩ = some (.int .i64 0) := (blk_cell HT0.out.y 13).trans rfl
 have z13 : w0.frozen? ⟨g + 1 + 1, 13, none⟩ = false := blk_frozen HT0.out.y 13
 have b14 : w0.cell? ⟨g + 1 + 1, 14, none⟩ = some (.int .i64 0) := (blk_cell HT0.out.y 14).trans rfl
 have z14 : w0.frozen? ⟨g + 1 + 1, 14, none⟩ = false := blk_frozen HT0.out.y 14
 have b15 : w0.cell? ⟨g + 1 + 1, 15, none⟩ = some (.int .i64 0) := (blk_cell HT0.out.y 15).trans rfl
 have z15 : w0.frozen? ⟨g + 1 + 1, 15, none⟩ = false := blk_frozen HT0.out.y 15
 have b16 : w0.cell? ⟨g + 1 + 1, 16, none⟩ = some (.slice none 0 0) := (blk_cell HT0.out.y 16).trans rfl
 have z16 : w0.frozen? ⟨g + 1 + 1, 16, none⟩ = false := blk_frozen HT0.out.y 16
 have hne : g + 1 + 1 ≠ g := by omega
 have hne2 : g ≠ g + 1 + 1 := by omega
 go_upto_region 24 with fail
 have hT : Bx w (g + 1 + 1) (g + 1) 34 #[.int .i64 0, .int .i64 0, .int .i64 0, .int .i64 0, .int .i64 0, .int .i64 0, .int .i64 0, .bool false, .slice none 0 0, .int .i64 0, .int .i64 0, .int .i64 0, .slice none 0 0, .int .i64 0, .int .i64 0, .int .i64 0, .slice none 0 0] #[.int .i64 m.f0, .int .i64 m.f1, .int .i64 m.f2, .int .i64 m.f3, .int .i64 m.f4, .int .i64 m.f5, .int .i64 0, .bool false, .slice none 0 0, .int .i64 0, .int .i64 0, .int .i64 0, .slice none 0 0, .int .i64 m.f10.f0, .int .i64 m.f10.f1, .int .i64 m.f10.f2, .slice A16 m.f10.f3.length c16] _ _ := (((((((HT0.out.put 3 (.int .i64 m.f3)).put 4 (.int .i64 m.f4)).put 5 (.int .i64 m.f5)).put 13 (.int .i64 m.f10.f0)).put 14 (.int .i64 m.f10.f1)).put 15 (.int .i64 m.f10.f2)).put 16 (.slice A16 m.f10.f3.length c16))
 have HT1 := Lib.hid hT
 clear hT
 obtain ⟨w1, hw⟩ : ∃ w1, (((((((w0.setCell ⟨g + 1 + 1, 3, none⟩ (.int .i64 m.f3)).setCell ⟨g + 1 + 1, 4, none⟩ (.int .i64 m.f4)).setCell ⟨g + 1 + 1, 5, none⟩ (.int .i64 m.f5)).setCell ⟨g + 1 + 1, 13, none⟩ (.int .i64 m.f10.f0)).setCell ⟨g + 1 + 1, 14, none⟩ (.int .i64 m.f10.f1)).setCell ⟨g + 1 + 1, 15, none⟩ (.int .i64 m.f10.f2)).setCell ⟨g + 1 + 1, 16, none⟩ (.slice A16 m.f10.f3.length c16)) = w1 := ⟨_, rfl⟩
 rw [hw] at HT1 ⊢
 clear hw
 refine wp_region_list ?_
 refine wpList_load_row rfl 34 (.tmp 4) rfl (g + 1 + 1) rfl 34 #[.int .i64 m.f0, .int .i64 m.f1, .int .i64 m.f2, .int .i64 m.f3, .int .i64 m.f4, .int .i64 m.f5, .int .i64 0, .bool false, .slice none 0 0, .int .i64 0, .int .i64 0, .int .i64 0, .slice none 0 0, .int .i64 m.f10.f0, .int .i64 m.f10.f1, .int .i64 m.f10.f2, .slice A16 m.f10.f3.length c16] (0, 0) _ HT1.out.y Tryz.underlying34 rfl (by kernel_rfl) ?_
 refine wpList_store_row rfl 34 (.tmp 2) (.tmp 61) rfl (g + 1) #[.int .i64 m.f0, .int .i64 m.f1, .int .i64 m.f2, .int .i64 m.f3, .int .i64 m.f4, .int .i64 m.f5, .int .i64 0, .bool false, .slice none 0 0, .int .i64 0, .int .i64 0, .int .i64 0, .slice none 0 0, .int .i64 m.f10.f0, .int .i64 m.f10.f1, .int .i64 m.f10.f2, .slice A16 m.f10.f3.length c16] rfl rfl 34 #[.int .i64 0, .int .i64 0, .int .i64 0, .int .i64 0, .int .i64 0, .int .i64 0, .int .i64 0, .bool false, .slice none 0 0, .int .i64 0, .int .i64 0, .int .i64 0, .slice none 0 0, .int .i64 0, .int .i64 0, .int .i64 0, .slice none 0 0] HT1.out.g0 (by kernel_rfl) rfl (by simp [Value.oneCell']) ?_
 have HD := Lib.hid (HT1.out.fin (cs' := #[.int .i64 m.f0, .int .i64 m.f1, .int .i64 m.f2, .int .i64 m.f3, .int .i64 m.f4, .int .i64 m.f5, .int .i64 0, .bool false, .slice none 0 0, .int .i64 0, .int .i64 0, .int .i64 0, .slice none 0 0, .int .i64 m.f10.f0, .int .i64 m.f10.f1, .int .i64 m.f10.f2, .slice A16 m.f10.f3.length c16]))
 obtain ⟨W, hW⟩ : ∃ W, w1.setRow (g + 1) #[.int .i64 m.f0, .int .i64 m.f1, .int .i64 m.f2, .int .i64 m.f3, .int .i64 m.f4, .int .i64 m.f5, .int .i64 0, .bool false, .slice none 0 0, .int .i64 0, .int .i64 0, .int .i64 0, .slice none 0 0, .int .i64 m.f10.f0, .int .i64 m.f10.f1, .int .i64 m.f10.f2, .slice A16 m.f10.f3.length c16] = W := ⟨_, rfl⟩
 rw [hW] at HD ⊢
 clear hW
 go_wp2_with fail
 refine bodyPost_ret (results_ct rfl _ _ (g + 1) 34 #[.int .i64 m.f0, .int .i64 m.f1, .int .i64 m.f2, .int .i64 m.f3, .int .i64 m.f4, .int .i64 m.f5, .int .i64 0, .bool false, .slice none 0 0, .int .i64 0, .int .i64 0, .int .i64 0, .slice none 0 0, .int .i64 m.f10.f0, .int .i64 m.f10.f1, .int .i64 m.f10.f2, .slice A16 m.f10.f3.length c16] (0, 0) _ rfl HD.out.1 Tryz.underlying34 rfl (by kernel_rfl)) rfl ?_
 have hik : isKind m.f0 = true := by rw [HK.out]; rfl
 refine ⟨⟨m.f0, m.f1, m.f2, m.f3, m.f4, m.f5, 0, false, [], zE, m.f10⟩, none, none, A16, 0, 0, c16, by rw [hik]; rfl, fun _ => by unfold bareM; simp [HK.out], ⟨Nat.le_refl 0, Kd.C_nil _ _, Nat.le_refl 0, Kd.C_nil _ _, HM.out.l16, Kd.C_below HM.out.g16 HD.out.2.2⟩, HD.out.2.2⟩
set_option maxHeartbeats 4000000 in
theorem plain_k0 {w : World} (m : MsgD) {A8 A12 A16 : Option Addr} {c8 c12 c16 : Nat} (hm : MsgC w m A8 c8 A12 c12 A16 c16) (hk : isKind m.f0 = false) :
  Calls Tryz.prog 68 #[.agg #[.int .i64 m.f0, .int .i64 m.f1, .int .i64 m.f2, .int .i64 m.f3, .int .i64 m.f4, .int .i64 m.f5, .int .i64 m.f6, .bool m.f7, .slice A8 m.f8.length c8, .int .i64 m.f9.f0, .int .i64 m.f9.f1, .int .i64 m.f9.f2, .slice A12 m.f9.f3.length c12, .int .i64 m.f10.f0, .int .i64 m.f10.f1, .int .i64 m.f10.f2, .slice A16 m.f10.f3.length c16]] w fun e w' => BareP w m e w' := by
 have t6 : (m.f0 == 6) = false := by rw [beq_eq_false_iff_ne]; intro h; rw [h] at hk; cases hk
 have t1 : (m.f0 == 1) = false := by rw [beq_eq_false_iff_ne]; intro h; rw [h] at hk; cases hk
 have t2 : (m.f0 == 2) = false := by rw [beq_eq_false_iff_ne]; intro h; rw [h] at hk; cases hk
 have t3 : (m.f0 == 3) = false := by rw [beq_eq_false_iff_ne]; intro h; rw [h] at hk; cases hk
 have t4 : (m.f0 == 4) = false := by rw [beq_eq_false_iff_ne]; intro h; rw [h] at hk; cases hk
 have t5 : (m.f0 == 5) = false := by rw [beq_eq_false_iff_ne]; intro h; rw [h] at hk; cases hk
 have HK := Lib.hid hk
 clear hk
 have HM := Lib.hid hm
 have HT0 := Lib.hid (bare_start w m A8 A12 A16 c8 c12 c16)
 clear hm
 go_enter Tryz.func68, Tryz.ntmps68
 go_upto_region 2 with fail
 obtain ⟨w0, hw⟩ : ∃ w0, (((w.alloc (.cells #[.int .i64 m.f0, .int .i64 m.f1, .int .i64 m.f2, .int .i64 m.f3, .int .i64 m.f4, .int .i64 m.f5, .int .i64 m.f6, .bool m.f7, .slice A8 m.f8.length c8, .int .i64 m.f9.f0, .int .i64 m.f9.f1, .int .i64 m.f9.f2, .slice A12 m.f9.f3.length c12, .int .i64 m.f10.f0, .int .i64 m.f10.f1, .int .i64 m.f10.f2, .slice A16 m.f10.f3.length c16] 34)).alloc (.cells #[.int .i64 0, .int .i64 0, .int .i64 0, .int .i64 0, .int .i64 0, .int .i64 0, .int .i64 0, .bool false, .slice none 0 0, .int .i64 0, .int .i64 0, .int .i64 0, .slice none 0 0, .int .i64 0, .int .i64 0, .int .i64 0, .slice none 0 0] 34)).alloc (.cells #[.int .i64 m.f0, .int .i64 m.f1, .int .i64 m.f2, .int .i64 0, .int .i64 0, .int .i64 0, .int .i64 0, .bool false, .slice none 0 0, .int .i64 0, .int .i64 0, .int .i64 0, .slice none 0 0, .int .i64 0, .int .i64 0, .int .i64 0, .slice none 0 0] 34)) = w0 := ⟨_, rfl⟩
 obtain ⟨g, hg⟩ : ∃ g, w.heap.size = g := ⟨_, rfl⟩
 have HG := Lib.hid hg
 rw [hw] at HT0 ⊢
 rw [hg] at HT0 ⊢
 clear hw hg
 obtain ⟨a0, a1, a2, a3, a4, a5, a6, a7, a8, a9, a10, a11, a12, a13, a14, a15, a16⟩ := MsBox.cell HT0.out.h.now
 have b3 : w0.cell? ⟨g + 1 + 1, 3, none⟩ = some (.int .i64 0) := (blk_cell HT0.out.y 3).trans rfl
 have z3 : w0.frozen? ⟨g + 1 + 1, 3, none⟩ = false := blk_frozen HT0.out.y 3
 have hne : g + 1 + 1 ≠ g := by omega
 have hne2 : g ≠ g + 1 + 1 := by omega
 go_upto_region 7 with fail
 have HT1 := Lib.hid (HT0.out.set 3 (.int .i64 m.f3) #[.int .i64 m.f0, .int .i64 m.f1, .int .i64 m.f2, .int .i64 m.f3, .int .i64 0, .int .i64 0, .int .i64 0, .bool false, .slice none 0 0, .int .i64 0, .int .i64 0, .int .i64 0, .slice none 0 0, .int .i64 0, .int .i64 0, .int .i64 0, .slice none 0 0] (blk_put HT0.out.y 3 _ rfl))
 obtain ⟨w1, hw⟩ : ∃ w1, w0.setCell ⟨g + 1 + 1, 3, none⟩ (.int .i64 m.f3) = w1 := ⟨_, rfl⟩
 rw [hw] at HT1 ⊢
 clear hw
 refine wp_region_list ?_
 refine wpList_load_row rfl 34 (.tmp 4) rfl (g + 1 + 1) rfl 34 #[.int .i64 m.f0, .int .i64 m.f1, .int .i64 m.f2, .int .i64 m.f3, .int .i64 0, .int .i64 0, .int .i64 0, .bool false, .slice none 0 0, .int .i64 0, .int .i64 0, .int .i64 0, .slice none 0 0, .int .i64 0, .int .i64 0, .int .i64 0, .slice none 0 0] (0, 0) _ HT1.out.y Tryz.underlying34 rfl (by kernel_rfl) ?_
 refine wpList_store_row rfl 34 (.tmp 2) (.tmp 24) rfl (g + 1) #[.int .i64 m.f0, .int .i64 m.f1, .int .i64 m.f2, .int .i64 m.f3, .int .i64 0, .int .i64 0, .int .i64 0, .bool false, .slice none 0 0, .int .i64 0, .int .i64 0, .int .i64 0, .slice none 0 0, .int .i64 0, .int .i64 0, .int .i64 0, .slice none 0 0] rfl rfl 34 #[.int .i64 0, .int .i64 0, .int .i64 0, .int .i64 0, .int .i64 0, .int .i64 0, .int .i64 0, .bool false, .slice none 0 0, .int .i64 0, .int .i64 0, .int .i64 0, .slice none 0 0, .int .i64 0, .int .i64 0, .int .i64 0, .slice none 0 0] HT1.out.g0 (by kernel_rfl) rfl (by simp [Value.oneCell']) ?_
 have HD := Lib.hid (HT1.out.fin (cs' := #[.int .i64 m.f0, .int .i64 m.f1, .int .i64 m.f2, .int .i64 m.f3, .int .i64 0, .int .i64 0, .int .i64 0, .bool false, .slice none 0 0, .int .i64 0, .int .i64 0, .int .i64 0, .slice none 0 0, .int .i64 0, .int .i64 0, .int .i64 0, .slice none 0 0]))
 obtain ⟨W, hW⟩ : ∃ W, w1.setRow (g + 1) #[.int .i64 m.f0, .int .i64 m.f1, .int .i64 m.f2, .int .i64 m.f3, .int .i64 0, .int .i64 0, .int .i64 0, .bool false, .slice none 0 0, .int .i64 0, .int .i64 0, .int .i64 0, .slice none 0 0, .int .i64 0, .int .i64 0, .int .i64 0, .slice none 0 0] = W := ⟨_, rfl⟩
 rw [hW] at HD ⊢
 clear hW
 go_wp2_with fail
 refine bodyPost_ret (results_ct rfl _ _ (g + 1) 34 #[.int .i64 m.f0, .int .i64 m.f1, .int .i64 m.f2, .int .i64 m.f3, .int .i64 0, .int .i64 0, .int .i64 0, .bool false, .slice none 0 0, .int .i64 0, .int .i64 0, .int .i64 0, .slice none 0 0, .int .i64 0, .int .i64 0, .int .i64 0, .slice none 0 0] (0, 0) _ rfl HD.out.1 Tryz.underlying34 rfl (by kernel_rfl)) rfl ?_
 exact ⟨⟨m.f0, m.f1, m.f2, m.f3, 0, 0, 0, false, [], zE, zP⟩, none, none, none, 0, 0, 0, by rw [HK.out]; rfl, fun h => (by rw [HK.out] at h; cases h), ⟨Nat.le_refl 0, Kd.C_nil _ _, Nat.le_refl 0, Kd.C_nil _ _, Nat.le_refl 0, Kd.C_nil _ _⟩, HD.out.2.2⟩
theorem plain_is {w : World} (m : MsgD) {A8 A12 A16 : Option Addr} {c8 c12 c16 : Nat} (hm : MsgC w m A8 c8 A12 c12 A16 c16) :
  Calls Tryz.prog 68 #[.agg #[.int .i64 m.f0, .int .i64 m.f1, .int .i64 m.f2, .int .i64 m.f3, .int .i64 m.f4, .int .i64 m.f5, .int .i64 m.f6, .bool m.f7, .slice A8 m.f8.length c8, .int .i64 m.f9.f0, .int .i64 m.f9.f1, .int .i64 m.f9.f2, .slice A12 m.f9.f3.length c12, .int .i64 m.f10.f0, .int .i64 m.f10.f1, .int .i64 m.f10.f2, .slice A16 m.f10.f3.length c16]] w fun e w' => BareP w m e w' := by
 cases hk : isKind m.f0 with
 | false => exact plain_k0 m hm hk
 | true =>
  have h2 : 1 ≤ m.f0 ∧ m.f0 ≤ 6 := by
   unfold isKind at hk
   rw [Bool.and_eq_true, decide_eq_true_eq, decide_eq_true_eq] at hk
   exact hk
  by_cases h1 : m.f0 = 1
  ·exact plain_k1 m hm h1
  ·by_cases h3 : m.f0 = 2
   ·exact plain_k2 m hm h3
   ·by_cases h4 : m.f0 = 3
    ·exact plain_k3 m hm h4
    ·by_cases h5 : m.f0 = 4
     ·exact plain_k4 m hm h5
     ·by_cases h6 : m.f0 = 5
      ·exact plain_k5 m hm h6
      ·exact plain_k6 m hm (by omega)
end Go.Proofs.YtgiefblcckikeaaGreat.M
end

section
/- Which messages are the same: record.SameMsg, the reference's SameMsg (printed by gensame04.py). -/
set_option maxRecDepth 100000
attribute [local irreducible] Go.wpStill
namespace Go.Proofs.YtgiefblcckikeaaGreat.M
open Go.RowKit Go.Proofs.YtgiefblcckikeaaGreatW.PrintWords Go.Proofs.YtgiefblcckikeaaGreatW.PrintLast Go.Proofs.YtgiefblcckikeaaGreatW.PrintMore Go.Proofs.YtgiefblcckikeaaGreat.G
set_option maxHeartbeats 1000000 in
theorem refSamePt_is {w : World} (a b : PartD) {A B : Option Addr} {c d : Nat} (hc : a.f3.length ≤ c) (ha : Kd.C (Kd.int .u8) w A a.f3.length a.f3) (hd : b.f3.length ≤ d) (hb : Kd.C (Kd.int .u8) w B b.f3.length b.f3) :
  Calls Tryz.prog 65 #[.agg #[.int .i64 a.f0, .int .i64 a.f1, .int .i64 a.f2, .slice A a.f3.length c], .agg #[.int .i64 b.f0, .int .i64 b.f1, .int .i64 b.f2, .slice B b.f3.length d]] w fun e w' => e = .returned (.bool (eqPt a b)) ∧ Below w.heap.size w w' := by
 have HBX := Lib.hid (show Below w.heap.size w ((w.alloc (.cells #[.int .i64 a.f0, .int .i64 a.f1, .int .i64 a.f2, .slice A a.f3.length c] 32)).alloc (.cells #[.int .i64 b.f0, .int .i64 b.f1, .int .i64 b.f2, .slice B b.f3.length d] 32)) from ((Below.refl _ _).alloc (Nat.le_refl _) _).alloc (by simp) _)
 have HA := Lib.hid (Kd.C_below ha HBX.out); have HB := Lib.hid (Kd.C_below hb HBX.out)
 have hz1 : (w.alloc (.cells #[.int .i64 a.f0, .int .i64 a.f1, .int .i64 a.f2, .slice A a.f3.length c] 32)).heap.size = w.heap.size + 1 := by simp
 have hx : ((w.alloc (.cells #[.int .i64 a.f0, .int .i64 a.f1, .int .i64 a.f2, .slice A a.f3.length c] 32)).alloc (.cells #[.int .i64 b.f0, .int .i64 b.f1, .int .i64 b.f2, .slice B b.f3.length d] 32)).heap[w.heap.size]? = some (.cells #[.int .i64 a.f0, .int .i64 a.f1, .int .i64 a.f2, .slice A a.f3.length c] 32) := (((Below.refl _ (w.alloc (.cells #[.int .i64 a.f0, .int .i64 a.f1, .int .i64 a.f2, .slice A a.f3.length c] 32))).alloc (Nat.le_refl _) _).block w.heap.size (by omega)).trans (heap_alloc_new w _)
 have hy : ((w.alloc (.cells #[.int .i64 a.f0, .int .i64 a.f1, .int .i64 a.f2, .slice A a.f3.length c] 32)).alloc (.cells #[.int .i64 b.f0, .int .i64 b.f1, .int .i64 b.f2, .slice B b.f3.length d] 32)).heap[w.heap.size + 1]? = some (.cells #[.int .i64 b.f0, .int .i64 b.f1, .int .i64 b.f2, .slice B b.f3.length d] 32) := by rw [← hz1]; exact heap_alloc_new _ _
 have HX := Lib.hid hx; have HY := Lib.hid hy
 obtain ⟨q0, hq0⟩ : ∃ q0 : Bool, (a.f0 == b.f0) = q0 := ⟨_, rfl⟩
 obtain ⟨q1, hq1⟩ : ∃ q1 : Bool, (a.f1 == b.f1) = q1 := ⟨_, rfl⟩
 obtain ⟨q2, hq2⟩ : ∃ q2 : Bool, (a.f2 == b.f2) = q2 := ⟨_, rfl⟩
 obtain ⟨q3, hq3⟩ : ∃ q3 : Bool, ((strOfNums a.f3).toList == (strOfNums b.f3).toList) = q3 := ⟨_, rfl⟩
 obtain ⟨r, hr⟩ : ∃ r, eqPt a b = r := ⟨_, rfl⟩
 rw [hr]
 have HR := Lib.hid (show r = (q0 && (q1 && (q2 && q3))) by rw [← hr, ← hq0, ← hq1, ← hq2, ← hq3]; rfl)
 clear hr ha hb hc hd hx hy hz1
 go_enter Tryz.func65, Tryz.ntmps65
 go_upto_region 1 with fail
 obtain ⟨w1, hw1⟩ : ∃ w1, (w.alloc (.cells #[.int .i64 a.f0, .int .i64 a.f1, .int .i64 a.f2, .slice A a.f3.length c] 32)).alloc (.cells #[.int .i64 b.f0, .int .i64 b.f1, .int .i64 b.f2, .slice B b.f3.length d] 32) = w1 := ⟨_, rfl⟩
 obtain ⟨g, hg⟩ : ∃ g, w.heap.size = g := ⟨_, rfl⟩
 rw [hw1]
 rw [hw1] at HBX HX HY HA HB
 rw [hg] at HX HY ⊢
 have HG := Lib.hid hg
 clear hw1 hg
 have hcv3 := Kd.C_string (P := Tryz.prog) (A := A) (c := c) Tryz.underlying23 Tryz.underlying5 Tryz.underlying9 HA.out
 have hcv4 := Kd.C_string (P := Tryz.prog) (A := B) (c := d) Tryz.underlying23 Tryz.underlying5 Tryz.underlying9 HB.out
 have a0 : w1.cell? ⟨g, 0, none⟩ = some (.int .i64 a.f0) := (blk_cell HX.out 0).trans rfl
 have b0 : w1.cell? ⟨g + 1, 0, none⟩ = some (.int .i64 b.f0) := (blk_cell HY.out 0).trans rfl
 have a1 : w1.cell? ⟨g, 1, none⟩ = some (.int .i64 a.f1) := (blk_cell HX.out 1).trans rfl
 have b1 : w1.cell? ⟨g + 1, 1, none⟩ = some (.int .i64 b.f1) := (blk_cell HY.out 1).trans rfl
 have a2 : w1.cell? ⟨g, 2, none⟩ = some (.int .i64 a.f2) := (blk_cell HX.out 2).trans rfl
 have b2 : w1.cell? ⟨g + 1, 2, none⟩ = some (.int .i64 b.f2) := (blk_cell HY.out 2).trans rfl
 have a3 : w1.cell? ⟨g, 3, none⟩ = some (.slice A a.f3.length c) := (blk_cell HX.out 3).trans rfl
 have b3 : w1.cell? ⟨g + 1, 3, none⟩ = some (.slice B b.f3.length d) := (blk_cell HY.out 3).trans rfl
 refine wp_region_list ?_
 refine with_fin (fun a' W => a'.tmps[4]? = some (.bool r) ∧ a'.defers = [] ∧ Below w.heap.size w W) (fun a' W h => ?_) (fun HF => ?_)
 ·obtain ⟨h1, h2, h3⟩ := h
  refine ‹∀ (a : Act) (w : World), Code.wp Tryz.prog Code.ret _ a w → _› _ _ ?_
  exact wp_ret (bodyPost_ret (v := .bool r) (results_slot rfl h1) h2 ⟨by first | rfl | (rw [HG.out]; rfl), by first | exact h3 | (rw [HG.out]; exact h3)⟩)
 simp only [List.append_eq, List.cons_append, List.nil_append, List.take_succ_cons, List.take_zero, List.drop_succ_cons, List.drop_zero]
 refine wpList_cut 5 ?_
 simp only [List.append_eq, List.cons_append, List.nil_append, List.take_succ_cons, List.take_zero, List.drop_succ_cons, List.drop_zero]
 go_wp2_with fail
 refine Halt.mk ?_
 cases q0 with
 | false => exact chain_to 33 4 false [(9, some false)] (by kernel_rfl) (Knows.cons rfl (Knows.nil _)) (Nat.le_refl 33) (fun a' h1 h2 => HF.out a' _ ⟨by rw [h1, HR.out]; simp, h2, HBX.out⟩)
 | true =>
  refine wpList_cut 6 ?_
  simp only [List.append_eq, List.cons_append, List.nil_append, List.take_succ_cons, List.take_zero, List.drop_succ_cons, List.drop_zero]
  go_wp2_with fail
  refine Halt.mk ?_
  cases q1 with
  | false => exact chain_to 33 4 false [(10, some true), (15, some false)] (by kernel_rfl) (Knows.cons rfl (Knows.cons rfl (Knows.nil _))) (Nat.le_refl 33) (fun a' h1 h2 => HF.out a' _ ⟨by rw [h1, HR.out]; simp, h2, HBX.out⟩)
  | true =>
   refine wpList_cut 7 ?_
   simp only [List.append_eq, List.cons_append, List.nil_append, List.take_succ_cons, List.take_zero, List.drop_succ_cons, List.drop_zero]
   go_wp2_with fail
   refine Halt.mk ?_
   cases q2 with
   | false => exact chain_to 33 4 false [(17, some true), (22, some false)] (by kernel_rfl) (Knows.cons rfl (Knows.cons rfl (Knows.nil _))) (Nat.le_refl 33) (fun a' h1 h2 => HF.out a' _ ⟨by rw [h1, HR.out]; simp, h2, HBX.out⟩)
   | true =>
    refine wpList_cut 9 ?_
    simp only [List.append_eq, List.cons_append, List.nil_append, List.take_succ_cons, List.take_zero, List.drop_succ_cons, List.drop_zero]
    go_wp2_with fail
    refine Halt.mk ?_
    cases q3 with
    | false => exact chain_to 33 4 false [(24, some true), (31, some false)] (by kernel_rfl) (Knows.cons rfl (Knows.cons rfl (Knows.nil _))) (Nat.le_refl 33) (fun a' h1 h2 => HF.out a' _ ⟨by rw [h1, HR.out]; simp, h2, HBX.out⟩)
    | true => exact chain_to 33 4 true [(24, some true), (31, some true)] (by kernel_rfl) (Knows.cons rfl (Knows.cons rfl (Knows.nil _))) (Nat.le_refl 33) (fun a' h1 h2 => HF.out a' _ ⟨by rw [h1, HR.out]; simp, h2, HBX.out⟩)
set_option maxHeartbeats 4000000 in
theorem refSameMs_is {w : World} (m n : MsgD) {A8 A12 A16 B8 B12 B16 : Option Addr} {c8 c12 c16 d8 d12 d16 : Nat} (hm : MsgC w m A8 c8 A12 c12 A16 c16) (hn : MsgC w n B8 d8 B12 d12 B16 d16) :
  Calls Tryz.prog 28 #[.agg (msgCells m A8 c8 A12 c12 A16 c16), .agg (msgCells n B8 d8 B12 d12 B16 d16)] w fun e w' => e = .returned (.bool (eqMs m n)) ∧ Below w.heap.size w w' := by
 have hb1 : Below w.heap.size w ((w.alloc (.cells (msgCells m A8 c8 A12 c12 A16 c16) 34)).alloc (.cells (msgCells n B8 d8 B12 d12 B16 d16) 34)) := ((Below.refl _ _).alloc (Nat.le_refl _) _).alloc (by simp) _
 have hz1 : (w.alloc (.cells (msgCells m A8 c8 A12 c12 A16 c16) 34)).heap.size = w.heap.size + 1 := by simp
 have hx : MsBox ((w.alloc (.cells (msgCells m A8 c8 A12 c12 A16 c16) 34)).alloc (.cells (msgCells n B8 d8 B12 d12 B16 d16) 34)) w.heap.size m A8 c8 A12 c12 A16 c16 := (((Below.refl _ (w.alloc (.cells (msgCells m A8 c8 A12 c12 A16 c16) 34))).alloc (Nat.le_refl _) _).block w.heap.size (by omega)).trans (heap_alloc_new w _)
 have hy : MsBox ((w.alloc (.cells (msgCells m A8 c8 A12 c12 A16 c16) 34)).alloc (.cells (msgCells n B8 d8 B12 d12 B16 d16) 34)) (w.heap.size + 1) n B8 d8 B12 d12 B16 d16 := by rw [← hz1]; exact heap_alloc_new _ _
 have HB := Lib.hid hb1; have HX := Lib.hid hx; have HY := Lib.hid hy; have HM := Lib.hid (hm.below hb1); have HN := Lib.hid (hn.below hb1)
 clear hm hn hb1 hz1 hx hy
 obtain ⟨r, hr⟩ : ∃ r, eqMs m n = r := ⟨_, rfl⟩
 have HR0 := Lib.hid hr.symm
 rw [hr]
 clear hr
 obtain ⟨q0, hq0⟩ : ∃ q0 : Bool, (m.f0 == n.f0) = q0 := ⟨_, rfl⟩
 obtain ⟨q1, hq1⟩ : ∃ q1 : Bool, (m.f1 == n.f1) = q1 := ⟨_, rfl⟩
 obtain ⟨q2, hq2⟩ : ∃ q2 : Bool, (m.f2 == n.f2) = q2 := ⟨_, rfl⟩
 obtain ⟨q3, hq3⟩ : ∃ q3 : Bool, (m.f3 == n.f3) = q3 := ⟨_, rfl⟩
 obtain ⟨q4, hq4⟩ : ∃ q4 : Bool, (m.f4 == n.f4) = q4 := ⟨_, rfl⟩
 obtain ⟨q5, hq5⟩ : ∃ q5 : Bool, (m.f5 == n.f5) = q5 := ⟨_, rfl⟩
 obtain ⟨q6, hq6⟩ : ∃ q6 : Bool, (m.f6 == n.f6) = q6 := ⟨_, rfl⟩
 obtain ⟨q7, hq7⟩ : ∃ q7 : Bool, (m.f7 == n.f7) = q7 := ⟨_, rfl⟩
 obtain ⟨q8, hq8⟩ : ∃ q8 : Bool, eqTrs m.f8 n.f8 = q8 := ⟨_, rfl⟩
 obtain ⟨q9, hq9⟩ : ∃ q9 : Bool, eqEn m.f9.f0 m.f9.f1 m.f9.f2 m.f9.f3 n.f9.f0 n.f9.f1 n.f9.f2 n.f9.f3 = q9 := ⟨_, rfl⟩
 obtain ⟨q10, hq10⟩ : ∃ q10 : Bool, eqPt m.f10 n.f10 = q10 := ⟨_, rfl⟩
 have HR := Lib.hid (show r = (q0 && (q1 && (q2 && (q3 && (q4 && (q5 && (q6 && (q7 && (q8 && (q9 && q10)))))))))) by rw [HR0.out, ← hq0, ← hq1, ← hq2, ← hq3, ← hq4, ← hq5, ← hq6, ← hq7, ← hq8, ← hq9, ← hq10]; rfl)
 have HQ8 := Lib.hid hq8; have HQ9 := Lib.hid hq9; have HQ10 := Lib.hid hq10
 clear hq8 hq9 hq10 HR0
 go_enter Tryz.func28, Tryz.ntmps28
 go_upto_region 1 with fail
 obtain ⟨w1, hw1⟩ : ∃ w1, (w.alloc (.cells (msgCells m A8 c8 A12 c12 A16 c16) 34)).alloc (.cells (msgCells n B8 d8 B12 d12 B16 d16) 34) = w1 := ⟨_, rfl⟩
 obtain ⟨g, hg⟩ : ∃ g, w.heap.size = g := ⟨_, rfl⟩
 rw [hw1]
 rw [hw1] at HB HX HY HM HN
 rw [hg] at HX HY ⊢
 have HG := Lib.hid hg
 clear hw1 hg
 obtain ⟨a0, a1, a2, a3, a4, a5, a6, a7, a8, a9, a10, a11, a12, a13, a14, a15, a16⟩ := HX.out.cell
 obtain ⟨b0, b1, b2, b3, b4, b5, b6, b7, b8, b9, b10, b11, b12, b13, b14, b15, b16⟩ := HY.out.cell
 refine wp_region_list ?_
 refine with_fin (fun a' W => a'.tmps[4]? = some (.bool r) ∧ a'.defers = [] ∧ Below w.heap.size w W) (fun a' W h => ?_) (fun HF => ?_)
 ·obtain ⟨h1, h2, h3⟩ := h
  refine ‹∀ (a : Act) (w : World), Code.wp Tryz.prog Code.ret _ a w → _› _ _ ?_
  exact wp_ret (bodyPost_ret (v := .bool r) (results_slot rfl h1) h2 ⟨by first | rfl | (rw [HG.out]; rfl), by first | exact h3 | (rw [HG.out]; exact h3)⟩)
 simp only [List.append_eq, List.cons_append, List.nil_append, List.take_succ_cons, List.take_zero, List.drop_succ_cons, List.drop_zero]
 refine wpList_cut 5 ?_
 simp only [List.append_eq, List.cons_append, List.nil_append, List.take_succ_cons, List.take_zero, List.drop_succ_cons, List.drop_zero]
 go_wp2_with fail
 refine Halt.mk ?_
 cases q0 with
 | false => exact chain_to 80 4 false [(9, some false)] (by kernel_rfl) (Knows.cons rfl (Knows.nil _)) (Nat.le_refl 80) (fun a' h1 h2 => HF.out a' _ ⟨by rw [h1, HR.out]; simp, h2, HB.out⟩)
 | true =>
  refine wpList_cut 6 ?_
  simp only [List.append_eq, List.cons_append, List.nil_append, List.take_succ_cons, List.take_zero, List.drop_succ_cons, List.drop_zero]
  go_wp2_with fail
  refine Halt.mk ?_
  cases q1 with
  | false => exact chain_to 80 4 false [(10, some true), (15, some false)] (by kernel_rfl) (Knows.cons rfl (Knows.cons rfl (Knows.nil _))) (Nat.le_refl 80) (fun a' h1 h2 => HF.out a' _ ⟨by rw [h1, HR.out]; simp, h2, HB.out⟩)
  | true =>
   refine wpList_cut 7 ?_
   simp only [List.append_eq, List.cons_append, List.nil_append, List.take_succ_cons, List.take_zero, List.drop_succ_cons, List.drop_zero]
   go_wp2_with fail
   refine Halt.mk ?_
   cases q2 with
   | false => exact chain_to 80 4 false [(17, some true), (22, some false)] (by kernel_rfl) (Knows.cons rfl (Knows.cons rfl (Knows.nil _))) (Nat.le_refl 80) (fun a' h1 h2 => HF.out a' _ ⟨by rw [h1, HR.out]; simp, h2, HB.out⟩)
   | true =>
    refine wpList_cut 7 ?_
    simp only [List.append_eq, List.cons_append, List.nil_append, List.take_succ_cons, List.take_zero, List.drop_succ_cons, List.drop_zero]
    go_wp2_with fail
    refine Halt.mk ?_
    cases q3 with
    | false => exact chain_to 80 4 false [(24, some true), (29, some false)] (by kernel_rfl) (Knows.cons rfl (Knows.cons rfl (Knows.nil _))) (Nat.le_refl 80) (fun a' h1 h2 => HF.out a' _ ⟨by rw [h1, HR.out]; simp, h2, HB.out⟩)
    | true =>
     refine wpList_cut 7 ?_
     simp only [List.append_eq, List.cons_append, List.nil_append, List.take_succ_cons, List.take_zero, List.drop_succ_cons, List.drop_zero]
     go_wp2_with fail
     refine Halt.mk ?_
     cases q4 with
     | false => exact chain_to 80 4 false [(31, some true), (36, some false)] (by kernel_rfl) (Knows.cons rfl (Knows.cons rfl (Knows.nil _))) (Nat.le_refl 80) (fun a' h1 h2 => HF.out a' _ ⟨by rw [h1, HR.out]; simp, h2, HB.out⟩)
     | true =>
      refine wpList_cut 7 ?_
      simp only [List.append_eq, List.cons_append, List.nil_append, List.take_succ_cons, List.take_zero, List.drop_succ_cons, List.drop_zero]
      go_wp2_with fail
      refine Halt.mk ?_
      cases q5 with
      | false => exact chain_to 80 4 false [(38, some true), (43, some false)] (by kernel_rfl) (Knows.cons rfl (Knows.cons rfl (Knows.nil _))) (Nat.le_refl 80) (fun a' h1 h2 => HF.out a' _ ⟨by rw [h1, HR.out]; simp, h2, HB.out⟩)
      | true =>
       refine wpList_cut 7 ?_
       simp only [List.append_eq, List.cons_append, List.nil_append, List.take_succ_cons, List.take_zero, List.drop_succ_cons, List.drop_zero]
       go_wp2_with fail
       refine Halt.mk ?_
       cases q6 with
       | false => exact chain_to 80 4 false [(45, some true), (50, some false)] (by kernel_rfl) (Knows.cons rfl (Knows.cons rfl (Knows.nil _))) (Nat.le_refl 80) (fun a' h1 h2 => HF.out a' _ ⟨by rw [h1, HR.out]; simp, h2, HB.out⟩)
       | true =>
        refine wpList_cut 7 ?_
        simp only [List.append_eq, List.cons_append, List.nil_append, List.take_succ_cons, List.take_zero, List.drop_succ_cons, List.drop_zero]
        go_wp2_with fail
        refine Halt.mk ?_
        cases q7 with
        | false => exact chain_to 80 4 false [(52, some true), (57, some false)] (by kernel_rfl) (Knows.cons rfl (Knows.cons rfl (Knows.nil _))) (Nat.le_refl 80) (fun a' h1 h2 => HF.out a' _ ⟨by rw [h1, HR.out]; simp, h2, HB.out⟩)
        | true =>
         refine wpList_cut 7 ?_
         simp only [List.append_eq, List.cons_append, List.nil_append, List.take_succ_cons, List.take_zero, List.drop_succ_cons, List.drop_zero]
         go_wp2_with fail
         refine (refSameTrs_is A8 B8 c8 d8 m.f8 n.f8 w1 HM.out.g8 HN.out.g8).mono ?_
         rw [HQ8.out]
         rintro e w2 ⟨rfl, hb⟩
         have HB2 := Lib.hid (HB.out.trans (hb.mono HB.out.size)); have HX2 := Lib.hid (HX.out.below hb); have HY2 := Lib.hid (HY.out.below hb); have HM2 := Lib.hid (HM.out.below hb); have HN2 := Lib.hid (HN.out.below hb)
         clear hb HB HX HY HM HN a0 a1 a2 a3 a4 a5 a6 a7 a8 a9 a10 a11 a12 a13 a14 a15 a16 b0 b1 b2 b3 b4 b5 b6 b7 b8 b9 b10 b11 b12 b13 b14 b15 b16
         obtain ⟨a0, a1, a2, a3, a4, a5, a6, a7, a8, a9, a10, a11, a12, a13, a14, a15, a16⟩ := HX2.out.cell
         obtain ⟨b0, b1, b2, b3, b4, b5, b6, b7, b8, b9, b10, b11, b12, b13, b14, b15, b16⟩ := HY2.out.cell
         go_wp2_with fail
         refine Halt.mk ?_
         cases q8 with
         | false => exact chain_to 80 4 false [(59, some true), (64, some false)] (by kernel_rfl) (Knows.cons rfl (Knows.cons rfl (Knows.nil _))) (Nat.le_refl 80) (fun a' h1 h2 => HF.out a' _ ⟨by rw [h1, HR.out]; simp, h2, HB2.out⟩)
         | true =>
          refine wpList_cut 7 ?_
          simp only [List.append_eq, List.cons_append, List.nil_append, List.take_succ_cons, List.take_zero, List.drop_succ_cons, List.drop_zero]
          go_wp2_with fail
          refine (refSameEn_is m.f9.f0 m.f9.f1 m.f9.f2 A12 c12 m.f9.f3 n.f9.f0 n.f9.f1 n.f9.f2 B12 d12 n.f9.f3 w2 HM2.out.g12 HM2.out.l12 HN2.out.g12 HN2.out.l12).mono ?_
          rw [HQ9.out]
          rintro e w3 ⟨rfl, hb⟩
          have HB3 := Lib.hid (HB2.out.trans (hb.mono HB2.out.size)); have HX3 := Lib.hid (HX2.out.below hb); have HY3 := Lib.hid (HY2.out.below hb); have HM3 := Lib.hid (HM2.out.below hb); have HN3 := Lib.hid (HN2.out.below hb)
          clear hb HB2 HX2 HY2 HM2 HN2 a0 a1 a2 a3 a4 a5 a6 a7 a8 a9 a10 a11 a12 a13 a14 a15 a16 b0 b1 b2 b3 b4 b5 b6 b7 b8 b9 b10 b11 b12 b13 b14 b15 b16
          obtain ⟨a0, a1, a2, a3, a4, a5, a6, a7, a8, a9, a10, a11, a12, a13, a14, a15, a16⟩ := HX3.out.cell
          obtain ⟨b0, b1, b2, b3, b4, b5, b6, b7, b8, b9, b10, b11, b12, b13, b14, b15, b16⟩ := HY3.out.cell
          go_wp2_with fail
          refine Halt.mk ?_
          cases q9 with
          | false => exact chain_to 80 4 false [(66, some true), (71, some false)] (by kernel_rfl) (Knows.cons rfl (Knows.cons rfl (Knows.nil _))) (Nat.le_refl 80) (fun a' h1 h2 => HF.out a' _ ⟨by rw [h1, HR.out]; simp, h2, HB3.out⟩)
          | true =>
           refine wpList_cut 7 ?_
           simp only [List.append_eq, List.cons_append, List.nil_append, List.take_succ_cons, List.take_zero, List.drop_succ_cons, List.drop_zero]
           go_wp2_with fail
           refine (refSamePt_is m.f10 n.f10 HM3.out.l16 HM3.out.g16 HN3.out.l16 HN3.out.g16).mono ?_
           rw [HQ10.out]
           rintro e w4 ⟨rfl, hb⟩
           have HB4 := Lib.hid (HB3.out.trans (hb.mono HB3.out.size)); have HX4 := Lib.hid (HX3.out.below hb); have HY4 := Lib.hid (HY3.out.below hb); have HM4 := Lib.hid (HM3.out.below hb); have HN4 := Lib.hid (HN3.out.below hb)
           clear hb HB3 HX3 HY3 HM3 HN3 a0 a1 a2 a3 a4 a5 a6 a7 a8 a9 a10 a11 a12 a13 a14 a15 a16 b0 b1 b2 b3 b4 b5 b6 b7 b8 b9 b10 b11 b12 b13 b14 b15 b16
           go_wp2_with fail
           refine Halt.mk ?_
           cases q10 with
           | false => exact chain_to 80 4 false [(73, some true), (78, some false)] (by kernel_rfl) (Knows.cons rfl (Knows.cons rfl (Knows.nil _))) (Nat.le_refl 80) (fun a' h1 h2 => HF.out a' _ ⟨by rw [h1, HR.out]; simp, h2, HB4.out⟩)
           | true => exact chain_to 80 4 true [(73, some true), (78, some true)] (by kernel_rfl) (Knows.cons rfl (Knows.cons rfl (Knows.nil _))) (Nat.le_refl 80) (fun a' h1 h2 => HF.out a' _ ⟨by rw [h1, HR.out]; simp, h2, HB4.out⟩)
end Go.Proofs.YtgiefblcckikeaaGreat.M
end

section
/- The reference's words on which messages may be. -/
set_option maxRecDepth 100000
attribute [local irreducible] Go.wpStill
namespace Go.Proofs.YtgiefblcckikeaaGreat.M
open Go.RowKit Go.Proofs.YtgiefblcckikeaaGreatW.PrintWords Go.Proofs.YtgiefblcckikeaaGreatW.PrintLast Go.Proofs.YtgiefblcckikeaaGreatW.PrintMore Go.Proofs.YtgiefblcckikeaaGreat.G
theorem dec_comm {α : Type} [DecidableEq α] (a b : α) : decide (a = b) = decide (b = a) := decide_eq_decide.2 ⟨Eq.symm, Eq.symm⟩
theorem eqS_comm (a b : List Int) : eqS a b = eqS b a := by unfold eqS; exact BEq.comm
theorem eqTx_comm (a b : TxD) : eqTx a b = eqTx b a := by
 unfold eqTx
 rw [BEq.comm (a := a.f0), BEq.comm (a := a.f1), eqS_comm, dec_comm a.f3, dec_comm a.f4, dec_comm a.f5]
theorem eqTs_comm : ∀ a b : List TxD, eqTs a b = eqTs b a
 | [], [] => rfl
 | [], _ :: _ => rfl
 | _ :: _, [] => rfl
 | x :: a, y :: b => by unfold eqTs; rw [eqTx_comm, eqTs_comm a b]
theorem eqEn_comm (k f n : Int) (l : List TxD) (k' f' n' : Int) (l' : List TxD) : eqEn k f n l k' f' n' l' = eqEn k' f' n' l' k f n l := by
 unfold eqEn
 rw [BEq.comm (a := k), BEq.comm (a := f), BEq.comm (a := n), eqTs_comm]
theorem eqTr_comm (a b : TrD) : eqTr a b = eqTr b a := by unfold eqTr; rw [BEq.comm (a := a.f0), eqEn_comm]
theorem eqTrs_comm : ∀ a b : List TrD, eqTrs a b = eqTrs b a
 | [], [] => rfl
 | [], _ :: _ => rfl
 | _ :: _, [] => rfl
 | x :: a, y :: b => by unfold eqTrs; rw [eqTr_comm, eqTrs_comm a b]
theorem eqPt_comm (a b : PartD) : eqPt a b = eqPt b a := by unfold eqPt; rw [BEq.comm (a := a.f0), BEq.comm (a := a.f1), BEq.comm (a := a.f2), eqS_comm]
theorem eqMs_comm (a b : MsgD) : eqMs a b = eqMs b a := by
 unfold eqMs
 rw [BEq.comm (a := a.f0), BEq.comm (a := a.f1), BEq.comm (a := a.f2), BEq.comm (a := a.f3), BEq.comm (a := a.f4), BEq.comm (a := a.f5), BEq.comm (a := a.f6), BEq.comm (a := a.f7), eqTrs_comm, eqEn_comm, eqPt_comm]
def mayLs (l : List TrD) : Bool := l.all mayTr && decide ((l.length : Int) ≤ 4096)
def maySw (m : MsgD) : Bool := if m.f0 = 3 then mayLs m.f8 else if m.f0 = 6 then mayE m.f9.f0 m.f9.f1 m.f9.f2 m.f9.f3 else if m.f0 = 5 then mayPt m.f10 else true
theorem bare_list {m : MsgD} (hk : isKind m.f0 = true) (he : eqMs (bareM m) m = true) (h3 : m.f0 ≠ 3) : m.f8 = [] := by
 have hb : (bareM m).f8 = [] := by unfold bareM; repeat' first | contradiction | rfl | split
 have h : eqTrs (bareM m).f8 m.f8 = true := by
  unfold eqMs at he
  simp only [Bool.and_eq_true] at he
  exact he.2.2.2.2.2.2.2.2.1
 rw [hb] at h
 cases hl : m.f8 with
 | nil => rfl
 | cons x l => rw [hl] at h; cases h
theorem mayMs_ref (m : MsgD) : mayMs m = (isKind m.f0 && (eqMs m (bareM m) && (inB 0 4 [m.f1] && (inB 0 4 [m.f2] && (inB 0 1099511627776 [m.f3] && (inB 0 1099511627776 [m.f4] && (inB 0 1099511627776 [m.f5] && (inB 0 1099511627776 [m.f6] && maySw m)))))))) := by
 unfold mayMs
 rw [eqMs_comm m]
 cases hk : isKind m.f0 with
 | false => simp
 | true =>
  cases he : eqMs (bareM m) m with
  | false => simp
  | true =>
   have e4 : inB 0 1099511627776 [m.f3, m.f4, m.f5, m.f6] = (inB 0 1099511627776 [m.f3] && (inB 0 1099511627776 [m.f4] && (inB 0 1099511627776 [m.f5] && inB 0 1099511627776 [m.f6]))) := by
    simp [inB]
   have es : (decide ((m.f8.length : Int) ≤ 4096) && (m.f8.all mayTr && ((!(m.f0 == 5) || mayPt m.f10) && (!(m.f0 == 6) || mayE m.f9.f0 m.f9.f1 m.f9.f2 m.f9.f3)))) = maySw m := by
    unfold maySw
    by_cases h3 : m.f0 = 3
    ·rw [if_pos h3, h3]
     unfold mayLs
     simp [Bool.and_comm]
    ·rw [if_neg h3, bare_list hk he h3]
     by_cases h6 : m.f0 = 6
     ·rw [if_pos h6, h6]; simp
     ·rw [if_neg h6]
      by_cases h5 : m.f0 = 5
      ·rw [if_pos h5, h5]; simp
      ·rw [if_neg h5, beq_eq_false_iff_ne.2 h5, beq_eq_false_iff_ne.2 h6]; simp
   rw [e4, es]
   simp [Bool.and_assoc]
theorem refWho_is (n : Int) (w : World) : Calls Tryz.prog 66 #[.int .i64 n] w fun e w' => e = .returned (.bool (inB 0 4 [n])) ∧ Below w.heap.size w w' :=
 (G.trivetref04_replica.calls n (inB 0 4 [n]) w (by
  unfold G.trivetref04_replica.f inB
  by_cases h : n ≥ 0
  ·rw [if_pos h]
   have e : decide (n < 5) = decide (n ≤ 4) := decide_eq_decide.2 (by omega)
   simp [e, h]
  ·rw [if_neg h]
   have : ¬ 0 ≤ n := h
   simp [this])).mono (fun e w' ⟨h1, k, h2⟩ => ⟨h1, by subst h2; exact pw_below_drewN (Below.refl _ _) k⟩)
theorem refCount_is (n : Int) (w : World) : Calls Tryz.prog 67 #[.int .i64 n] w fun e w' => e = .returned (.bool (inB 0 1099511627776 [n])) ∧ Below w.heap.size w w' :=
 (G.trivetref04_count.calls n (inB 0 1099511627776 [n]) w (by rw [count_f]; simp [inB])).mono (fun e w' ⟨h1, k, h2⟩ => ⟨h1, by subst h2; exact pw_below_drewN (Below.refl _ _) k⟩)
theorem refMayEn_is (k f n : Int) (A : Option Addr) (c : Nat) (l : List TxD) (w : World) (hr : Kd.C G.k26 w A l.length l) (hc : l.length ≤ c) :
  Calls Tryz.prog 29 #[.agg #[.int .i64 k, .int .i64 f, .int .i64 n, .slice A l.length c]] w fun e w' => e = .returned (.bool (mayE k f n l)) ∧ Below w.heap.size w w' := by
 obtain ⟨M, hM⟩ := bound_T l
 refine G.trivetref04_MayEntry.calls (M + l.length + 3) k f n A c l _ w hr hc (mayE_r _ k f n l (fun t ht => by have := hM t ht; omega) (by omega) hr.2.1 (fun t ht => ?_))
 obtain ⟨i, hi⟩ := List.getElem?_of_mem ht
 obtain ⟨ad, A2, c2, A3, c3, A4, c4, A5, c5, _, _, hX⟩ := tx_get hr hi
 exact hX.ls
theorem refPart_is {w : World} (a : PartD) {A : Option Addr} {c : Nat} (hc : a.f3.length ≤ c) (ha : Kd.C (Kd.int .u8) w A a.f3.length a.f3) :
  Calls Tryz.prog 70 #[.agg #[.int .i64 a.f0, .int .i64 a.f1, .int .i64 a.f2, .slice A a.f3.length c]] w fun e w' => e = .returned (.bool (mayPt a)) ∧ Below w.heap.size w w' :=
 G.trivetref04_MayPart.calls a.f0 a.f1 a.f2 A c a.f3 (mayPt a) w ha hc (by
  unfold G.trivetref04_MayPart.f mayPt
  rw [count_f, Option.bind_some]
  have e0 : inB 0 1099511627776 [a.f0] = (decide (0 ≤ a.f0) && decide (a.f0 ≤ 1099511627776)) := by simp [inB]
  rw [e0]
  cases (decide (0 ≤ a.f0) && decide (a.f0 ≤ 1099511627776)) with
  | false => rw [if_neg (by simp)]; rfl
  | true =>
   rw [if_pos rfl, Bool.true_and]
   by_cases h1 : a.f2 ≥ 1
   ·rw [if_pos h1]
    by_cases h2 : a.f2 ≤ 4096
    ·rw [if_pos h2]
     have e1 : inB 1 4096 [a.f2] = true := by simp [inB]; omega
     rw [e1, Bool.true_and]
     by_cases h3 : a.f1 ≥ 0
     ·rw [if_pos h3]
      by_cases h4 : a.f1 < a.f2
      ·rw [if_pos h4]
       have e2 : inB 0 (a.f2 - 1) [a.f1] = true := by simp [inB]; omega
       rw [e2, Bool.true_and]
      ·rw [if_neg h4]
       have e2 : inB 0 (a.f2 - 1) [a.f1] = false := by simp [inB]; omega
       rw [e2]; rfl
     ·rw [if_neg h3]
      have e2 : inB 0 (a.f2 - 1) [a.f1] = false := by simp [inB]; omega
      rw [e2]; rfl
    ·rw [if_neg h2]
     have e1 : inB 1 4096 [a.f2] = false := by simp [inB]; omega
     rw [e1]; rfl
   ·rw [if_neg h1]
    have e1 : inB 1 4096 [a.f2] = false := by simp [inB]; omega
    rw [e1]; rfl)
def LsI (l : List TrD) (w : World) (i : Value) (wr : World) : Prop := ∃ k : Nat, k ≤ l.length ∧ i = .int .i64 k ∧ (l.take k).all mayTr = true ∧ Below w.heap.size w wr
set_option maxHeartbeats 1000000 in
theorem refList_is (A : Option Addr) (c : Nat) (l : List TrD) (w : World) (hr : Kd.C G.k63 w A l.length l) :
  Calls Tryz.prog 69 #[.slice A l.length c] w fun e w' => e = .returned (.bool (mayLs l)) ∧ Below w.heap.size w w' := by
 have hlm : l.length ≤ 9223372036854775807 := hr.2.1
 have HR := Lib.hid hr
 clear hr
 go_enter Tryz.func69, Tryz.ntmps69
 go_wp2_with fail
 go_loopw [3] (fun i wr => LsI l w i wr) (fun i _ => l.length - (intOf i).toNat)
 case atStart => exact ⟨0, Nat.zero_le _, rfl, by simp, Below.refl _ _⟩
 case round =>
  obtain ⟨k, hk, rfl, hin, hb⟩ := hrel
  have HIN := Lib.hid hin; have HBr := Lib.hid hb
  clear hin hb
  by_cases hlt : k < l.length
  ·obtain ⟨x, hx⟩ : ∃ x, l[k]? = some x := ⟨_, List.getElem?_eq_getElem hlt⟩
   obtain ⟨ad, A4, c4, rfl, x0, x1, x2, x3, x4, hl, hX⟩ := tr_get (Kd.C_below HR.out HBr.out) hx
   have HXX := Lib.hid (And.intro hl hX)
   have HX := Lib.hid (show l.take (k + 1) = l.take k ++ [x] by rw [List.take_add_one, hx]; rfl)
   have HM := Lib.hid (List.mem_of_getElem? hx)
   have HXr := Lib.hid hx
   obtain ⟨q0, hq0⟩ : ∃ q, inB 0 1099511627776 [x.f0] = q := ⟨_, rfl⟩
   obtain ⟨q1, hq1⟩ : ∃ q, mayE x.f1.f0 x.f1.f1 x.f1.f2 x.f1.f3 = q := ⟨_, rfl⟩
   have HV := Lib.hid (show mayTr x = (q0 && q1) by rw [← hq0, ← hq1]; rfl)
   have H0 := Lib.hid hq0; have H1 := Lib.hid hq1
   clear hx hX hl hq0 hq1
   go_wp2_with fail
   have h4 := refCount_is x.f0 wr
   rw [H0.out] at h4
   refine h4.mono ?_
   rintro e w2 ⟨rfl, hb⟩
   have HB2 := Lib.hid (HBr.out.trans (hb.mono HBr.out.size)); have HXX2 := Lib.hid (Kd.C_below HXX.out.2 hb)
   obtain ⟨ad2, A42, c42, had, y0, y1, y2, y3, y4, hl2, hX2⟩ := tr_get (Kd.C_below HR.out HB2.out) HXr.out
   obtain rfl : ad2 = ad := by simpa using had.symm
   have HXX3 := Lib.hid (And.intro hl2 hX2)
   clear hb h4 x0 x1 x2 x3 x4 hl2 hX2 had
   cases q0 with
   | false =>
    have HB := Lib.hid (show mayLs l = false by
     unfold mayLs
     have : l.all mayTr = false := by rw [List.all_eq_false]; exact ⟨x, HM.out, by rw [HV.out]; simp⟩
     rw [this]; rfl)
    go_wp2_with fail
    go_ret
    exact ⟨by rw [HB.out]; rfl, HB2.out⟩
   | true =>
    go_wp2_with fail
    have h4 := refMayEn_is x.f1.f0 x.f1.f1 x.f1.f2 A42 c42 x.f1.f3 w2 HXX3.out.2 HXX3.out.1
    rw [H1.out] at h4
    refine h4.mono ?_
    rintro e w3 ⟨rfl, hb⟩
    have HB3 := Lib.hid (HB2.out.trans (hb.mono HB2.out.size))
    clear hb h4 y0 y1 y2 y3 y4
    cases q1 with
    | false =>
     have HB := Lib.hid (show mayLs l = false by
      unfold mayLs
      have : l.all mayTr = false := by rw [List.all_eq_false]; exact ⟨x, HM.out, by rw [HV.out]; simp⟩
      rw [this]; rfl)
     go_wp2_with fail
     go_ret
     exact ⟨by rw [HB.out]; rfl, HB3.out⟩
    | true =>
     have HB := Lib.hid (show (l.take (k + 1)).all mayTr = true by rw [HX.out, List.all_append, HIN.out]; simp [HV.out])
     go_wp2_with fail
     go_roundw
     case rel => exact ⟨k + 1, hlt, by go_num, HB.out, HB3.out⟩
     case measure => simp [intOf]; omega
  ·have HB := Lib.hid (show mayLs l = decide ((l.length : Int) ≤ 4096) by
    have := HIN.out
    rw [List.take_of_length_le (by omega)] at this
    unfold mayLs
    rw [this, Bool.true_and])
   obtain ⟨q, hq⟩ : ∃ q : Bool, decide ((l.length : Int) ≤ 4096) = q := ⟨_, rfl⟩
   rw [hq] at HB
   go_wp2_with fail
   go_ret
   exact ⟨by rw [HB.out]; rfl, HBr.out⟩
end Go.Proofs.YtgiefblcckikeaaGreat.M
end

section
/- The reference's MayMsg, CheckMsg (printed by genmsg04b.py). -/
set_option maxRecDepth 100000
attribute [local irreducible] Go.wpStill
namespace Go.Proofs.YtgiefblcckikeaaGreat.M
open Go.RowKit Go.Proofs.YtgiefblcckikeaaGreatW.PrintWords Go.Proofs.YtgiefblcckikeaaGreatW.PrintLast Go.Proofs.YtgiefblcckikeaaGreatW.PrintMore Go.Proofs.YtgiefblcckikeaaGreat.G
set_option maxHeartbeats 8000000 in
theorem refMayMs_is {w : World} (m : MsgD) {A8 A12 A16 : Option Addr} {c8 c12 c16 : Nat} (hm : MsgC w m A8 c8 A12 c12 A16 c16) :
  Calls Tryz.prog 30 #[.agg #[.int .i64 m.f0, .int .i64 m.f1, .int .i64 m.f2, .int .i64 m.f3, .int .i64 m.f4, .int .i64 m.f5, .int .i64 m.f6, .bool m.f7, .slice A8 m.f8.length c8, .int .i64 m.f9.f0, .int .i64 m.f9.f1, .int .i64 m.f9.f2, .slice A12 m.f9.f3.length c12, .int .i64 m.f10.f0, .int .i64 m.f10.f1, .int .i64 m.f10.f2, .slice A16 m.f10.f3.length c16]] w fun e w' => e = .returned (.bool (mayMs m)) ∧ Below w.heap.size w w' := by
 have hb := (Below.refl _ w).alloc (Nat.le_refl _) (.cells #[.int .i64 m.f0, .int .i64 m.f1, .int .i64 m.f2, .int .i64 m.f3, .int .i64 m.f4, .int .i64 m.f5, .int .i64 m.f6, .bool m.f7, .slice A8 m.f8.length c8, .int .i64 m.f9.f0, .int .i64 m.f9.f1, .int .i64 m.f9.f2, .slice A12 m.f9.f3.length c12, .int .i64 m.f10.f0, .int .i64 m.f10.f1, .int .i64 m.f10.f2, .slice A16 m.f10.f3.length c16] 34)
 have HB0 := Lib.hid hb; have HX0 := Lib.hid (show MsBox (w.alloc (.cells #[.int .i64 m.f0, .int .i64 m.f1, .int .i64 m.f2, .int .i64 m.f3, .int .i64 m.f4, .int .i64 m.f5, .int .i64 m.f6, .bool m.f7, .slice A8 m.f8.length c8, .int .i64 m.f9.f0, .int .i64 m.f9.f1, .int .i64 m.f9.f2, .slice A12 m.f9.f3.length c12, .int .i64 m.f10.f0, .int .i64 m.f10.f1, .int .i64 m.f10.f2, .slice A16 m.f10.f3.length c16] 34)) w.heap.size m A8 c8 A12 c12 A16 c16 from heap_alloc_new w _); have HM0 := Lib.hid (hm.below hb)
 obtain ⟨q, hq⟩ : ∃ q, mayMs m = q := ⟨_, rfl⟩
 have HQ := Lib.hid (hq.symm.trans (mayMs_ref m))
 rw [hq]
 clear hq hm hb
 go_enter Tryz.func30, Tryz.ntmps30
 go_upto_region 1 with fail
 obtain ⟨v0, hw⟩ : ∃ v, w.alloc (.cells #[.int .i64 m.f0, .int .i64 m.f1, .int .i64 m.f2, .int .i64 m.f3, .int .i64 m.f4, .int .i64 m.f5, .int .i64 m.f6, .bool m.f7, .slice A8 m.f8.length c8, .int .i64 m.f9.f0, .int .i64 m.f9.f1, .int .i64 m.f9.f2, .slice A12 m.f9.f3.length c12, .int .i64 m.f10.f0, .int .i64 m.f10.f1, .int .i64 m.f10.f2, .slice A16 m.f10.f3.length c16] 34) = v := ⟨_, rfl⟩
 obtain ⟨g, hg⟩ : ∃ g, w.heap.size = g := ⟨_, rfl⟩
 have HG := Lib.hid hg
 rw [hw] at HB0 HX0 HM0 ⊢
 rw [hg] at HX0 ⊢
 clear hw hg
 obtain ⟨b3, hb3⟩ : ∃ b, isKind m.f0 = b := ⟨_, rfl⟩
 obtain ⟨b4, hb4⟩ : ∃ b, eqMs m (bareM m) = b := ⟨_, rfl⟩
 obtain ⟨p1, hp1⟩ : ∃ b, inB 0 4 [m.f1] = b := ⟨_, rfl⟩
 obtain ⟨p2, hp2⟩ : ∃ b, inB 0 4 [m.f2] = b := ⟨_, rfl⟩
 obtain ⟨p3, hp3⟩ : ∃ b, inB 0 1099511627776 [m.f3] = b := ⟨_, rfl⟩
 obtain ⟨p4, hp4⟩ : ∃ b, inB 0 1099511627776 [m.f4] = b := ⟨_, rfl⟩
 obtain ⟨p5, hp5⟩ : ∃ b, inB 0 1099511627776 [m.f5] = b := ⟨_, rfl⟩
 obtain ⟨p6, hp6⟩ : ∃ b, inB 0 1099511627776 [m.f6] = b := ⟨_, rfl⟩
 obtain ⟨s, hs⟩ : ∃ b, maySw m = b := ⟨_, rfl⟩
 obtain ⟨k3, hk3⟩ : ∃ b : Bool, (m.f0 == 3) = b := ⟨_, rfl⟩
 obtain ⟨k6, hk6⟩ : ∃ b : Bool, (m.f0 == 6) = b := ⟨_, rfl⟩
 obtain ⟨k5, hk5⟩ : ∃ b : Bool, (m.f0 == 5) = b := ⟨_, rfl⟩
 have HV := Lib.hid (show q = (b3 && (b4 && (p1 && (p2 && (p3 && (p4 && (p5 && (p6 && s)))))))) by rw [HQ.out, hb3, hb4, hp1, hp2, hp3, hp4, hp5, hp6, hs])
 have HS := Lib.hid (show s = if k3 = true then mayLs m.f8 else if k6 = true then mayE m.f9.f0 m.f9.f1 m.f9.f2 m.f9.f3 else if k5 = true then mayPt m.f10 else true by
  rw [← hs, ← hk3, ← hk6, ← hk5]
  unfold maySw
  simp only [beq_iff_eq])
 have H3 := Lib.hid hb3; have H4 := Lib.hid hb4; have P1 := Lib.hid hp1; have P2 := Lib.hid hp2; have P3 := Lib.hid hp3; have P4 := Lib.hid hp4; have P5 := Lib.hid hp5; have P6 := Lib.hid hp6
 clear hb3 hb4 hp1 hp2 hp3 hp4 hp5 hp6 hs HQ
 refine wp_region_list ?_
 refine wpList_load_row rfl 34 (.tmp 1) rfl g rfl 34 #[.int .i64 m.f0, .int .i64 m.f1, .int .i64 m.f2, .int .i64 m.f3, .int .i64 m.f4, .int .i64 m.f5, .int .i64 m.f6, .bool m.f7, .slice A8 m.f8.length c8, .int .i64 m.f9.f0, .int .i64 m.f9.f1, .int .i64 m.f9.f2, .slice A12 m.f9.f3.length c12, .int .i64 m.f10.f0, .int .i64 m.f10.f1, .int .i64 m.f10.f2, .slice A16 m.f10.f3.length c16] (0, 0) _ HX0.out Tryz.underlying34 rfl (by kernel_rfl) ?_
 go_wp2_with fail
 have h4 := plain_is m HM0.out
 refine h4.mono ?_
 rintro e v1 ⟨y, B8, B12, B16, d8, d12, d16, rfl, hy, hyc, hb⟩
 rw [H3.out] at hy ⊢
 have HB1 := Lib.hid (HB0.out.trans (hb.mono HB0.out.size)); have HX1 := Lib.hid (HX0.out.below hb); have HM1 := Lib.hid (HM0.out.below hb); have HY := Lib.hid hy; have HYC := Lib.hid hyc
 clear h4 hb HB0 HX0 HM0 hy hyc
 go_upto_region 2 with fail
 have hbx := heap_alloc_new v1 (.cells #[.int .i64 y.f0, .int .i64 y.f1, .int .i64 y.f2, .int .i64 y.f3, .int .i64 y.f4, .int .i64 y.f5, .int .i64 y.f6, .bool y.f7, .slice B8 y.f8.length d8, .int .i64 y.f9.f0, .int .i64 y.f9.f1, .int .i64 y.f9.f2, .slice B12 y.f9.f3.length d12, .int .i64 y.f10.f0, .int .i64 y.f10.f1, .int .i64 y.f10.f2, .slice B16 y.f10.f3.length d16] 34)
 have hay := (Below.refl _ v1).alloc (Nat.le_refl _) (.cells #[.int .i64 y.f0, .int .i64 y.f1, .int .i64 y.f2, .int .i64 y.f3, .int .i64 y.f4, .int .i64 y.f5, .int .i64 y.f6, .bool y.f7, .slice B8 y.f8.length d8, .int .i64 y.f9.f0, .int .i64 y.f9.f1, .int .i64 y.f9.f2, .slice B12 y.f9.f3.length d12, .int .i64 y.f10.f0, .int .i64 y.f10.f1, .int .i64 y.f10.f2, .slice B16 y.f10.f3.length d16] 34)
 obtain ⟨v2, hw⟩ : ∃ v, v1.alloc (.cells #[.int .i64 y.f0, .int .i64 y.f1, .int .i64 y.f2, .int .i64 y.f3, .int .i64 y.f4, .int .i64 y.f5, .int .i64 y.f6, .bool y.f7, .slice B8 y.f8.length d8, .int .i64 y.f9.f0, .int .i64 y.f9.f1, .int .i64 y.f9.f2, .slice B12 y.f9.f3.length d12, .int .i64 y.f10.f0, .int .i64 y.f10.f1, .int .i64 y.f10.f2, .slice B16 y.f10.f3.length d16] 34) = v := ⟨_, rfl⟩
 rw [hw] at hbx hay ⊢
 clear hw
 have HB2 := Lib.hid (HB1.out.trans (hay.mono HB1.out.size)); have HX2 := Lib.hid (HX1.out.below hay); have HM2 := Lib.hid (HM1.out.below hay); have HYD := Lib.hid (HYC.out.below hay)
 obtain ⟨gy, hgy⟩ : ∃ gy, v1.heap.size = gy := ⟨_, rfl⟩
 rw [hgy] at hbx ⊢
 have HYX := Lib.hid (show MsBox v2 gy y B8 d8 B12 d12 B16 d16 from hbx)
 clear hbx hay hgy HB1 HX1 HM1 HYC
 obtain ⟨a0, a1, a2, a3, a4, a5, a6, a7, a8, a9, a10, a11, a12, a13, a14, a15, a16⟩ := HX2.out.cell
 cases b3 with
 | false =>
  have HW := Lib.hid (show q = false by rw [HV.out]; simp)
  go_wp2_with fail
  go_ret
  exact ⟨by rw [HW.out]; rfl, HB2.out⟩
 | true =>
  have HYE := Lib.hid (HY.out rfl)
  refine wp_region_list ?_
  refine wpList_cut 3 ?_
  simp only [List.take_succ_cons, List.take_zero, List.drop_succ_cons, List.drop_zero]
  go_wp2_with fail
  refine Halt.mk ?_
  refine gate_guard (by rfl) ?_
  dsimp only
  refine wpList_load_row rfl 34 (.tmp 1) rfl g rfl 34 #[.int .i64 m.f0, .int .i64 m.f1, .int .i64 m.f2, .int .i64 m.f3, .int .i64 m.f4, .int .i64 m.f5, .int .i64 m.f6, .bool m.f7, .slice A8 m.f8.length c8, .int .i64 m.f9.f0, .int .i64 m.f9.f1, .int .i64 m.f9.f2, .slice A12 m.f9.f3.length c12, .int .i64 m.f10.f0, .int .i64 m.f10.f1, .int .i64 m.f10.f2, .slice A16 m.f10.f3.length c16] (0, 0) _ HX2.out Tryz.underlying34 rfl (by kernel_rfl) ?_
  refine gate_guard (by rfl) ?_
  dsimp only
  refine wpList_load_row rfl 34 (.tmp 3) rfl gy rfl 34 #[.int .i64 y.f0, .int .i64 y.f1, .int .i64 y.f2, .int .i64 y.f3, .int .i64 y.f4, .int .i64 y.f5, .int .i64 y.f6, .bool y.f7, .slice B8 y.f8.length d8, .int .i64 y.f9.f0, .int .i64 y.f9.f1, .int .i64 y.f9.f2, .slice B12 y.f9.f3.length d12, .int .i64 y.f10.f0, .int .i64 y.f10.f1, .int .i64 y.f10.f2, .slice B16 y.f10.f3.length d16] (0, 0) _ HYX.out Tryz.underlying34 rfl (by kernel_rfl) ?_
  go_wp2_with fail
  have H4' := Lib.hid (show eqMs m y = b4 by rw [HYE.out]; exact H4.out)
  clear HYE HY
  have h4 := refSameMs_is m y HM2.out HYD.out
  rw [H4'.out] at h4
  refine h4.mono ?_
  rintro e v3 ⟨rfl, hb⟩
  have HB3 := Lib.hid (HB2.out.trans (hb.mono HB2.out.size)); have HX3 := Lib.hid (HX2.out.below hb); have HM3 := Lib.hid (HM2.out.below hb)
  clear h4 hb HB2 HX2 HM2 a0 a1 a2 a3 a4 a5 a6 a7 a8 a9 a10 a11 a12 a13 a14 a15 a16
  obtain ⟨a0, a1, a2, a3, a4, a5, a6, a7, a8, a9, a10, a11, a12, a13, a14, a15, a16⟩ := HX3.out.cell
  cases b4 with
  | false =>
   have HW := Lib.hid (show q = false by rw [HV.out]; simp)
   go_wp2_with fail
   go_ret
   exact ⟨by rw [HW.out]; rfl, HB3.out⟩
  | true =>
   go_wp2_with fail
   have h4 := refWho_is m.f1 v3
   rw [P1.out] at h4
   refine h4.mono ?_
   rintro e v4 ⟨rfl, hb⟩
   have HB4 := Lib.hid (HB3.out.trans (hb.mono HB3.out.size)); have HX4 := Lib.hid (HX3.out.below hb); have HM4 := Lib.hid (HM3.out.below hb)
   clear h4 hb HB3 HX3 HM3 a0 a1 a2 a3 a4 a5 a6 a7 a8 a9 a10 a11 a12 a13 a14 a15 a16
   obtain ⟨a0, a1, a2, a3, a4, a5, a6, a7, a8, a9, a10, a11, a12, a13, a14, a15, a16⟩ := HX4.out.cell
   cases p1 with
   | false =>
    have HW := Lib.hid (show q = false by rw [HV.out]; simp)
    go_wp2_with fail
    go_ret
    exact ⟨by rw [HW.out]; rfl, HB4.out⟩
   | true =>
    go_wp2_with fail
    have h4 := refWho_is m.f2 v4
    rw [P2.out] at h4
    refine h4.mono ?_
    rintro e v5 ⟨rfl, hb⟩
    have HB5 := Lib.hid (HB4.out.trans (hb.mono HB4.out.size)); have HX5 := Lib.hid (HX4.out.below hb); have HM5 := Lib.hid (HM4.out.below hb)
    clear h4 hb HB4 HX4 HM4 a0 a1 a2 a3 a4 a5 a6 a7 a8 a9 a10 a11 a12 a13 a14 a15 a16
    obtain ⟨a0, a1, a2, a3, a4, a5, a6, a7, a8, a9, a10, a11, a12, a13, a14, a15, a16⟩ := HX5.out.cell
    cases p2 with
    | false =>
     have HW := Lib.hid (show q = false by rw [HV.out]; simp)
     go_wp2_with fail
     go_ret
     exact ⟨by rw [HW.out]; rfl, HB5.out⟩
    | true =>
     go_wp2_with fail
     have h4 := refCount_is m.f3 v5
     rw [P3.out] at h4
     refine h4.mono ?_
     rintro e v6 ⟨rfl, hb⟩
     have HB6 := Lib.hid (HB5.out.trans (hb.mono HB5.out.size)); have HX6 := Lib.hid (HX5.out.below hb); have HM6 := Lib.hid (HM5.out.below hb)
     clear h4 hb HB5 HX5 HM5 a0 a1 a2 a3 a4 a5 a6 a7 a8 a9 a10 a11 a12 a13 a14 a15 a16
     obtain ⟨a0, a1, a2, a3, a4, a5, a6, a7, a8, a9, a10, a11, a12, a13, a14, a15, a16⟩ := HX6.out.cell
     cases p3 with
     | false =>
      have HW := Lib.hid (show q = false by rw [HV.out]; simp)
      go_wp2_with fail
      go_ret
      exact ⟨by rw [HW.out]; rfl, HB6.out⟩
     | true =>
      go_wp2_with fail
      have h4 := refCount_is m.f4 v6
      rw [P4.out] at h4
      refine h4.mono ?_
      rintro e v7 ⟨rfl, hb⟩
      have HB7 := Lib.hid (HB6.out.trans (hb.mono HB6.out.size)); have HX7 := Lib.hid (HX6.out.below hb); have HM7 := Lib.hid (HM6.out.below hb)
      clear h4 hb HB6 HX6 HM6 a0 a1 a2 a3 a4 a5 a6 a7 a8 a9 a10 a11 a12 a13 a14 a15 a16
      obtain ⟨a0, a1, a2, a3, a4, a5, a6, a7, a8, a9, a10, a11, a12, a13, a14, a15, a16⟩ := HX7.out.cell
      cases p4 with
      | false =>
       have HW := Lib.hid (show q = false by rw [HV.out]; simp)
       go_wp2_with fail
       go_ret
       exact ⟨by rw [HW.out]; rfl, HB7.out⟩
      | true =>
       go_wp2_with fail
       have h4 := refCount_is m.f5 v7
       rw [P5.out] at h4
       refine h4.mono ?_
       rintro e v8 ⟨rfl, hb⟩
       have HB8 := Lib.hid (HB7.out.trans (hb.mono HB7.out.size)); have HX8 := Lib.hid (HX7.out.below hb); have HM8 := Lib.hid (HM7.out.below hb)
       clear h4 hb HB7 HX7 HM7 a0 a1 a2 a3 a4 a5 a6 a7 a8 a9 a10 a11 a12 a13 a14 a15 a16
       obtain ⟨a0, a1, a2, a3, a4, a5, a6, a7, a8, a9, a10, a11, a12, a13, a14, a15, a16⟩ := HX8.out.cell
       cases p5 with
       | false =>
        have HW := Lib.hid (show q = false by rw [HV.out]; simp)
        go_wp2_with fail
        go_ret
        exact ⟨by rw [HW.out]; rfl, HB8.out⟩
       | true =>
        go_wp2_with fail
        have h4 := refCount_is m.f6 v8
        rw [P6.out] at h4
        refine h4.mono ?_
        rintro e v9 ⟨rfl, hb⟩
        have HB9 := Lib.hid (HB8.out.trans (hb.mono HB8.out.size)); have HX9 := Lib.hid (HX8.out.below hb); have HM9 := Lib.hid (HM8.out.below hb)
        clear h4 hb HB8 HX8 HM8 a0 a1 a2 a3 a4 a5 a6 a7 a8 a9 a10 a11 a12 a13 a14 a15 a16
        obtain ⟨a0, a1, a2, a3, a4, a5, a6, a7, a8, a9, a10, a11, a12, a13, a14, a15, a16⟩ := HX9.out.cell
        cases p6 with
        | false =>
         have HW := Lib.hid (show q = false by rw [HV.out]; simp)
         go_wp2_with fail
         go_ret
         exact ⟨by rw [HW.out]; rfl, HB9.out⟩
        | true =>
         cases k3 with
         | true =>
          obtain ⟨r, hr⟩ : ∃ r, mayLs m.f8 = r := ⟨_, rfl⟩
          have HW := Lib.hid (show q = r by rw [HV.out, HS.out, ← hr]; simp)
          have HR := Lib.hid hr
          clear hr
          go_wp2_with fail
          have h4 := refList_is A8 c8 m.f8 v9 HM9.out.g8
          rw [HR.out] at h4
          refine h4.mono ?_
          rintro e v10 ⟨rfl, hb⟩
          have HB10 := Lib.hid (HB9.out.trans (hb.mono HB9.out.size)); have HX10 := Lib.hid (HX9.out.below hb); have HM10 := Lib.hid (HM9.out.below hb)
          clear h4 hb HB9 HX9 HM9 a0 a1 a2 a3 a4 a5 a6 a7 a8 a9 a10 a11 a12 a13 a14 a15 a16
          obtain ⟨a0, a1, a2, a3, a4, a5, a6, a7, a8, a9, a10, a11, a12, a13, a14, a15, a16⟩ := HX10.out.cell
          go_wp2_with fail
          go_ret
          exact ⟨by rw [HW.out]; rfl, HB10.out⟩
         | false =>
          cases k6 with
          | true =>
           obtain ⟨r, hr⟩ : ∃ r, mayE m.f9.f0 m.f9.f1 m.f9.f2 m.f9.f3 = r := ⟨_, rfl⟩
           have HW := Lib.hid (show q = r by rw [HV.out, HS.out, ← hr]; simp)
           have HR := Lib.hid hr
           clear hr
           go_wp2_with fail
           have h4 := refMayEn_is m.f9.f0 m.f9.f1 m.f9.f2 A12 c12 m.f9.f3 v9 HM9.out.g12 HM9.out.l12
           rw [HR.out] at h4
           refine h4.mono ?_
           rintro e v10 ⟨rfl, hb⟩
           have HB10 := Lib.hid (HB9.out.trans (hb.mono HB9.out.size)); have HX10 := Lib.hid (HX9.out.below hb); have HM10 := Lib.hid (HM9.out.below hb)
           clear h4 hb HB9 HX9 HM9 a0 a1 a2 a3 a4 a5 a6 a7 a8 a9 a10 a11 a12 a13 a14 a15 a16
           obtain ⟨a0, a1, a2, a3, a4, a5, a6, a7, a8, a9, a10, a11, a12, a13, a14, a15, a16⟩ := HX10.out.cell
           go_wp2_with fail
           go_ret
           exact ⟨by rw [HW.out]; rfl, HB10.out⟩
          | false =>
           cases k5 with
           | true =>
            obtain ⟨r, hr⟩ : ∃ r, mayPt m.f10 = r := ⟨_, rfl⟩
            have HW := Lib.hid (show q = r by rw [HV.out, HS.out, ← hr]; simp)
            have HR := Lib.hid hr
            clear hr
            go_wp2_with fail
            have h4 := refPart_is m.f10 HM9.out.l16 HM9.out.g16
            rw [HR.out] at h4
            refine h4.mono ?_
            rintro e v10 ⟨rfl, hb⟩
            have HB10 := Lib.hid (HB9.out.trans (hb.mono HB9.out.size)); have HX10 := Lib.hid (HX9.out.below hb); have HM10 := Lib.hid (HM9.out.below hb)
            clear h4 hb HB9 HX9 HM9 a0 a1 a2 a3 a4 a5 a6 a7 a8 a9 a10 a11 a12 a13 a14 a15 a16
            obtain ⟨a0, a1, a2, a3, a4, a5, a6, a7, a8, a9, a10, a11, a12, a13, a14, a15, a16⟩ := HX10.out.cell
            go_wp2_with fail
            go_ret
            exact ⟨by rw [HW.out]; rfl, HB10.out⟩
           | false =>
            have HW := Lib.hid (show q = true by rw [HV.out, HS.out]; simp)
            go_wp2_with fail
            go_ret
            exact ⟨by rw [HW.out]; rfl, HB9.out⟩
end Go.Proofs.YtgiefblcckikeaaGreat.M
end

section
/- The reference's Unmarshal (printed by genunm04.py). -/
set_option maxRecDepth 100000
attribute [local irreducible] Go.wpStill
namespace Go.Proofs.YtgiefblcckikeaaGreat.M
open Go.RowKit Go.Proofs.YtgiefblcckikeaaGreatW.PrintWords Go.Proofs.YtgiefblcckikeaaGreatW.PrintLast Go.Proofs.YtgiefblcckikeaaGreatW.PrintMore Go.Proofs.YtgiefblcckikeaaGreat.G
set_option maxHeartbeats 4000000 in
theorem refUnm_is (A : Option Addr) (c : Nat) (l : List Int) (w : World) (hr : Kd.C (Kd.int .u8) w A l.length l) (hc : l.length ≤ c) (hb : okB l = true) (hl : l.length < 140737488355328) :
  Calls Tryz.prog 26 #[.slice A l.length c] w fun e w' => MsT w (unm l).1 (unm l).2 e w' := by
 obtain ⟨d, hd⟩ : ∃ d, (takeSeal l).1 = d := ⟨_, rfl⟩
 obtain ⟨n, hn⟩ : ∃ n, (takeSeal l).2.1 = n := ⟨_, rfl⟩
 obtain ⟨er, her⟩ : ∃ er, (takeSeal l).2.2 = er := ⟨_, rfl⟩
 have hok := takeSeal_ok hb hl
 rw [hd] at hok
 have HOK := Lib.hid hok
 have HU := Lib.hid (show unm l = if ¬ er = 0 then (zM, er) else if n < (l.length : Int) then (zM, 13) else takeMs d by unfold unm; rw [hd, hn, her])
 have HS := Lib.hid (refUnseal_calls A c l (w.alloc (.cells #[.int .i64 0, .int .i64 0, .int .i64 0, .int .i64 0, .int .i64 0, .int .i64 0, .int .i64 0, .bool false, .slice none 0 0, .int .i64 0, .int .i64 0, .int .i64 0, .slice none 0 0, .int .i64 0, .int .i64 0, .int .i64 0, .slice none 0 0] 34)) (Kd.C_alloc hr _) hc hb hl)
 rw [hd, hn, her] at HS
 have hg := heap_alloc_new w (.cells #[.int .i64 0, .int .i64 0, .int .i64 0, .int .i64 0, .int .i64 0, .int .i64 0, .int .i64 0, .bool false, .slice none 0 0, .int .i64 0, .int .i64 0, .int .i64 0, .slice none 0 0, .int .i64 0, .int .i64 0, .int .i64 0, .slice none 0 0] 34)
 have hbz := (Below.refl _ w).alloc (Nat.le_refl _) (.cells #[.int .i64 0, .int .i64 0, .int .i64 0, .int .i64 0, .int .i64 0, .int .i64 0, .int .i64 0, .bool false, .slice none 0 0, .int .i64 0, .int .i64 0, .int .i64 0, .slice none 0 0, .int .i64 0, .int .i64 0, .int .i64 0, .slice none 0 0] 34)
 have hz : (w.alloc (.cells #[.int .i64 0, .int .i64 0, .int .i64 0, .int .i64 0, .int .i64 0, .int .i64 0, .int .i64 0, .bool false, .slice none 0 0, .int .i64 0, .int .i64 0, .int .i64 0, .slice none 0 0, .int .i64 0, .int .i64 0, .int .i64 0, .slice none 0 0] 34)).heap.size = w.heap.size + 1 := by simp
 clear hd hn her hok hr hc hb hl
 go_enter Tryz.func26, Tryz.ntmps26
 go_upto_region 1 with fail
 obtain ⟨wA, hw⟩ : ∃ W, w.alloc (.cells #[.int .i64 0, .int .i64 0, .int .i64 0, .int .i64 0, .int .i64 0, .int .i64 0, .int .i64 0, .bool false, .slice none 0 0, .int .i64 0, .int .i64 0, .int .i64 0, .slice none 0 0, .int .i64 0, .int .i64 0, .int .i64 0, .slice none 0 0] 34) = W := ⟨_, rfl⟩
 rw [hw] at HS hg hbz hz ⊢
 clear hw
 go_wp2_with fail
 refine HS.out.mono ?_
 rintro e w1 ⟨v, rfl, ho, hb1⟩
 obtain ⟨Ad, cd, rfl⟩ := Own.form ho
 have HO := Lib.hid (Kd.R_reads' ho)
 have HG := Lib.hid ((hb1.block w.heap.size (by omega)).trans hg)
 have HZ := Lib.hid (show w.heap.size < w1.heap.size by have := hb1.size; omega)
 have HB := Lib.hid (hbz.trans (hb1.mono (by omega)))
 clear ho hb1 hg hbz hz HS
 by_cases he : er = 0
 case neg =>
  have HR := Lib.hid (show unm l = (zM, er) by rw [HU.out, if_pos he])
  have q : (er != 0) = true := bne_iff_ne.2 he
  clear he HU
  go_upto_region 3 with fail
  refine wp_region_list ?_
  refine wpList_cut 2 ?_
  simp only [List.take_succ_cons, List.take_zero, List.drop_succ_cons, List.drop_zero]
  go_wp2_with fail
  refine Halt.mk ?_
  refine wpList_store_row rfl 34 (.tmp 2) (.tmp 18) rfl w.heap.size #[.int .i64 0, .int .i64 0, .int .i64 0, .int .i64 0, .int .i64 0, .int .i64 0, .int .i64 0, .bool false, .slice none 0 0, .int .i64 0, .int .i64 0, .int .i64 0, .slice none 0 0, .int .i64 0, .int .i64 0, .int .i64 0, .slice none 0 0] rfl rfl 34 #[.int .i64 0, .int .i64 0, .int .i64 0, .int .i64 0, .int .i64 0, .int .i64 0, .int .i64 0, .bool false, .slice none 0 0, .int .i64 0, .int .i64 0, .int .i64 0, .slice none 0 0, .int .i64 0, .int .i64 0, .int .i64 0, .slice none 0 0] HG.out (by kernel_rfl) rfl (by simp [Value.oneCell']) ?_
  have HEB := Lib.hid (setRow_heap w1 w.heap.size #[.int .i64 0, .int .i64 0, .int .i64 0, .int .i64 0, .int .i64 0, .int .i64 0, .int .i64 0, .bool false, .slice none 0 0, .int .i64 0, .int .i64 0, .int .i64 0, .slice none 0 0, .int .i64 0, .int .i64 0, .int .i64 0, .slice none 0 0] #[.int .i64 0, .int .i64 0, .int .i64 0, .int .i64 0, .int .i64 0, .int .i64 0, .int .i64 0, .bool false, .slice none 0 0, .int .i64 0, .int .i64 0, .int .i64 0, .slice none 0 0, .int .i64 0, .int .i64 0, .int .i64 0, .slice none 0 0] 34 (0, 0) HG.out)
  have HBE := Lib.hid (setRow_below (cs := #[.int .i64 0, .int .i64 0, .int .i64 0, .int .i64 0, .int .i64 0, .int .i64 0, .int .i64 0, .bool false, .slice none 0 0, .int .i64 0, .int .i64 0, .int .i64 0, .slice none 0 0, .int .i64 0, .int .i64 0, .int .i64 0, .slice none 0 0]) (cs' := #[.int .i64 0, .int .i64 0, .int .i64 0, .int .i64 0, .int .i64 0, .int .i64 0, .int .i64 0, .bool false, .slice none 0 0, .int .i64 0, .int .i64 0, .int .i64 0, .slice none 0 0, .int .i64 0, .int .i64 0, .int .i64 0, .slice none 0 0]) (t := 34) HB.out (Nat.le_refl _))
  obtain ⟨W, hW⟩ : ∃ W, w1.setRow w.heap.size #[.int .i64 0, .int .i64 0, .int .i64 0, .int .i64 0, .int .i64 0, .int .i64 0, .int .i64 0, .bool false, .slice none 0 0, .int .i64 0, .int .i64 0, .int .i64 0, .slice none 0 0, .int .i64 0, .int .i64 0, .int .i64 0, .slice none 0 0] = W := ⟨_, rfl⟩
  rw [hW] at HEB HBE ⊢
  clear hW
  go_wp2_with fail
  refine bodyPost_ret (results_ct rfl _ _ w.heap.size 34 #[.int .i64 0, .int .i64 0, .int .i64 0, .int .i64 0, .int .i64 0, .int .i64 0, .int .i64 0, .bool false, .slice none 0 0, .int .i64 0, .int .i64 0, .int .i64 0, .slice none 0 0, .int .i64 0, .int .i64 0, .int .i64 0, .slice none 0 0] (0, 0) _ rfl HEB.out Tryz.underlying34 rfl (by kernel_rfl)) rfl ?_
  rw [HR.out]
  exact ⟨_, _, _, rfl, Kd.R_nil _ _ _ _ _, Kd.R_nil _ _ _ _ _, Kd.R_nil _ _ _ _ _, HBE.out⟩
 case pos =>
  have q : (er != 0) = false := by rw [he]; rfl
  by_cases hn : n < (l.length : Int)
  case pos =>
   have HR := Lib.hid (show unm l = (zM, 13) by rw [HU.out, if_neg (fun q => q he), if_pos hn])
   have q2 : decide (n < (l.length : Int)) = true := decide_eq_true hn
   clear he hn HU
   go_upto_region 5 with fail
   refine wp_region_list ?_
   refine wpList_cut 1 ?_
   simp only [List.take_succ_cons, List.take_zero, List.drop_succ_cons, List.drop_zero]
   go_wp2_with fail
   refine Halt.mk ?_
   refine wpList_store_row rfl 34 (.tmp 2) (.tmp 24) rfl w.heap.size #[.int .i64 0, .int .i64 0, .int .i64 0, .int .i64 0, .int .i64 0, .int .i64 0, .int .i64 0, .bool false, .slice none 0 0, .int .i64 0, .int .i64 0, .int .i64 0, .slice none 0 0, .int .i64 0, .int .i64 0, .int .i64 0, .slice none 0 0] rfl rfl 34 #[.int .i64 0, .int .i64 0, .int .i64 0, .int .i64 0, .int .i64 0, .int .i64 0, .int .i64 0, .bool false, .slice none 0 0, .int .i64 0, .int .i64 0, .int .i64 0, .slice none 0 0, .int .i64 0, .int .i64 0, .int .i64 0, .slice none 0 0] HG.out (by kernel_rfl) rfl (by simp [Value.oneCell']) ?_
   have HEB := Lib.hid (setRow_heap w1 w.heap.size #[.int .i64 0, .int .i64 0, .int .i64 0, .int .i64 0, .int .i64 0, .int .i64 0, .int .i64 0, .bool false, .slice none 0 0, .int .i64 0, .int .i64 0, .int .i64 0, .slice none 0 0, .int .i64 0, .int .i64 0, .int .i64 0, .slice none 0 0] #[.int .i64 0, .int .i64 0, .int .i64 0, .int .i64 0, .int .i64 0, .int .i64 0, .int .i64 0, .bool false, .slice none 0 0, .int .i64 0, .int .i64 0, .int .i64 0, .slice none 0 0, .int .i64 0, .int .i64 0, .int .i64 0, .slice none 0 0] 34 (0, 0) HG.out)
   have HBE := Lib.hid (setRow_below (cs := #[.int .i64 0, .int .i64 0, .int .i64 0, .int .i64 0, .int .i64 0, .int .i64 0, .int .i64 0, .bool false, .slice none 0 0, .int .i64 0, .int .i64 0, .int .i64 0, .slice none 0 0, .int .i64 0, .int .i64 0, .int .i64 0, .slice none 0 0]) (cs' := #[.int .i64 0, .int .i64 0, .int .i64 0, .int .i64 0, .int .i64 0, .int .i64 0, .int .i64 0, .bool false, .slice none 0 0, .int .i64 0, .int .i64 0, .int .i64 0, .slice none 0 0, .int .i64 0, .int .i64 0, .int .i64 0, .slice none 0 0]) (t := 34) HB.out (Nat.le_refl _))
   obtain ⟨W, hW⟩ : ∃ W, w1.setRow w.heap.size #[.int .i64 0, .int .i64 0, .int .i64 0, .int .i64 0, .int .i64 0, .int .i64 0, .int .i64 0, .bool false, .slice none 0 0, .int .i64 0, .int .i64 0, .int .i64 0, .slice none 0 0, .int .i64 0, .int .i64 0, .int .i64 0, .slice none 0 0] = W := ⟨_, rfl⟩
   rw [hW] at HEB HBE ⊢
   clear hW
   go_wp2_with fail
   refine bodyPost_ret (results_ct rfl _ _ w.heap.size 34 #[.int .i64 0, .int .i64 0, .int .i64 0, .int .i64 0, .int .i64 0, .int .i64 0, .int .i64 0, .bool false, .slice none 0 0, .int .i64 0, .int .i64 0, .int .i64 0, .slice none 0 0, .int .i64 0, .int .i64 0, .int .i64 0, .slice none 0 0] (0, 0) _ rfl HEB.out Tryz.underlying34 rfl (by kernel_rfl)) rfl ?_
   rw [HR.out]
   exact ⟨_, _, _, rfl, Kd.R_nil _ _ _ _ _, Kd.R_nil _ _ _ _ _, Kd.R_nil _ _ _ _ _, HBE.out⟩
  case neg =>
   have q2 : decide (n < (l.length : Int)) = false := decide_eq_false hn
   have HR0 := Lib.hid (show unm l = takeMs d by rw [HU.out, if_neg (fun q => q he), if_neg hn])
   clear he hn HU
   obtain ⟨y, hy⟩ : ∃ y, (rMsg ⟨d, 0, false⟩).1 = y := ⟨_, rfl⟩
   obtain ⟨s', hs⟩ : ∃ t, (rMsg ⟨d, 0, false⟩).2 = t := ⟨_, rfl⟩
   have h0 := heap_alloc_new w1 (.cells #[.slice Ad d.length cd, .int .i64 0, .int .i64 0, .bool false] 86)
   have hb2 := (Below.refl _ w1).alloc (Nat.le_refl _) (.cells #[.slice Ad d.length cd, .int .i64 0, .int .i64 0, .bool false] 86)
   have hI : IsRd d w1 (w1.alloc (.cells #[.slice Ad d.length cd, .int .i64 0, .int .i64 0, .bool false] 86)) w1.heap.size ⟨d, 0, false⟩ := ⟨Ad, cd, 0, h0, Nat.le_refl _, HO.out.2.1, HO.out.2.2, Nat.zero_le _, rfl, HOK.out.2⟩
   have HN := Lib.hid (rdMsg_is hI hb2 HOK.out)
   rw [hy, hs] at HN
   obtain ⟨e2, he2⟩ : ∃ e2, eEnds (rEnd s') (mayMs y) false = e2 := ⟨_, rfl⟩
   have HR1 := Lib.hid (show unm l = if e2 = 0 then (y, 0) else (zM, e2) by rw [HR0.out, takeMs_r, hy, hs, ← he2]; rfl)
   have HE2 := Lib.hid he2
   clear h0 hI hy hs he2 HR0
   go_wp2_with fail
   obtain ⟨w2, hw⟩ : ∃ W, w1.alloc (.cells #[.slice Ad d.length cd, .int .i64 0, .int .i64 0, .bool false] 86) = W := ⟨_, rfl⟩
   rw [hw] at HN hb2 ⊢
   refine HN.out.mono ?_
   rintro e w3 ⟨v8, v12, v16, rfl, r8, r12, r16, hI, hB, hK⟩
   obtain ⟨A8, c8, rfl⟩ := Kd.R_slice r8
   obtain ⟨A12, c12, rfl⟩ := Kd.R_slice r12
   obtain ⟨A16, c16, rfl⟩ := Kd.R_slice r16
   have HI := Lib.hid hI
   have HB3 := Lib.hid hB
   have HX2 := Lib.hid (show w1.heap.size < w2.heap.size by rw [← hw]; simp)
   have HX3 := Lib.hid (Nat.lt_of_lt_of_le HX2.out hK.size)
   have HZ2 := Lib.hid (show w.heap.size < w2.heap.size from Nat.lt_trans HZ.out HX2.out)
   clear hw
   have HSZ := Lib.hid (show w.heap.size ≤ w2.heap.size from Nat.le_trans (Nat.le_of_lt HZ.out) hb2.size)
   have HV8 := Lib.hid r8
   have HV12 := Lib.hid r12
   have HV16 := Lib.hid r16
   clear r8 r12 r16 hI hB hK hb2 HN q q2
   go_upto_region 8 with fail
   have hby := heap_alloc_new w3 (.cells #[.int .i64 y.f0, .int .i64 y.f1, .int .i64 y.f2, .int .i64 y.f3, .int .i64 y.f4, .int .i64 y.f5, .int .i64 y.f6, .bool y.f7, .slice A8 y.f8.length c8, .int .i64 y.f9.f0, .int .i64 y.f9.f1, .int .i64 y.f9.f2, .slice A12 y.f9.f3.length c12, .int .i64 y.f10.f0, .int .i64 y.f10.f1, .int .i64 y.f10.f2, .slice A16 y.f10.f3.length c16] 34)
   have hay := (Below.refl _ w3).alloc (Nat.le_refl _) (.cells #[.int .i64 y.f0, .int .i64 y.f1, .int .i64 y.f2, .int .i64 y.f3, .int .i64 y.f4, .int .i64 y.f5, .int .i64 y.f6, .bool y.f7, .slice A8 y.f8.length c8, .int .i64 y.f9.f0, .int .i64 y.f9.f1, .int .i64 y.f9.f2, .slice A12 y.f9.f3.length c12, .int .i64 y.f10.f0, .int .i64 y.f10.f1, .int .i64 y.f10.f2, .slice A16 y.f10.f3.length c16] 34)
   obtain ⟨w4, hw⟩ : ∃ W, w3.alloc (.cells #[.int .i64 y.f0, .int .i64 y.f1, .int .i64 y.f2, .int .i64 y.f3, .int .i64 y.f4, .int .i64 y.f5, .int .i64 y.f6, .bool y.f7, .slice A8 y.f8.length c8, .int .i64 y.f9.f0, .int .i64 y.f9.f1, .int .i64 y.f9.f2, .slice A12 y.f9.f3.length c12, .int .i64 y.f10.f0, .int .i64 y.f10.f1, .int .i64 y.f10.f2, .slice A16 y.f10.f3.length c16] 34) = W := ⟨_, rfl⟩
   rw [hw] at hby hay ⊢
   clear hw
   have HI4 := Lib.hid (HI.out.below hay)
   have HB4 := Lib.hid (HB3.out.trans (hay.mono HB3.out.size))
   have HW8 := Lib.hid (Kd.R_below HV8.out hay)
   have HW12 := Lib.hid (Kd.R_below HV12.out hay)
   have HW16 := Lib.hid (Kd.R_below HV16.out hay)
   obtain ⟨g, hg⟩ : ∃ g, w3.heap.size = g := ⟨_, rfl⟩
   have hxg : w1.heap.size < g := by rw [← hg]; exact HX3.out
   have hgz : g < w4.heap.size := by rw [← hg]; exact (Array.getElem?_eq_some_iff.1 hby).1
   rw [hg] at hby ⊢
   have HY4 := Lib.hid hby
   have HGZ := Lib.hid hgz
   clear hby hay hg hgz HI HB3 HV8 HV12 HV16
   have HXG := Lib.hid hxg
   clear hxg
   go_wp2_with fail
   refine (rdEnd_is HI4.out HB4.out).mono ?_
   rintro e w5 ⟨rfl, h1, h2, h3⟩
   have HY5 := Lib.hid ((h3.block g HGZ.out (by have := HXG.out; omega)).trans HY4.out)
   have HI5 := Lib.hid h1; have HB5 := Lib.hid h2
   have HX8 := Lib.hid (R_keep' HX2.out HW8.out h3)
   have HX12 := Lib.hid (R_keep' HX2.out HW12.out h3)
   have HX16 := Lib.hid (R_keep' HX2.out HW16.out h3)
   have HGZ5 := Lib.hid (Nat.lt_of_lt_of_le HGZ.out h3.size)
   clear h1 h2 h3 HI4 HB4 HY4 HW8 HW12 HW16 HGZ
   go_upto_region 9 with fail
   refine wp_region_list ?_
   refine wpList_cut 1 ?_
   simp only [List.take_succ_cons, List.take_zero, List.drop_succ_cons, List.drop_zero]
   go_wp2_with fail
   refine Halt.mk ?_
   refine wpList_load_row rfl 34 (.tmp 8) rfl g rfl 34 #[.int .i64 y.f0, .int .i64 y.f1, .int .i64 y.f2, .int .i64 y.f3, .int .i64 y.f4, .int .i64 y.f5, .int .i64 y.f6, .bool y.f7, .slice A8 y.f8.length c8, .int .i64 y.f9.f0, .int .i64 y.f9.f1, .int .i64 y.f9.f2, .slice A12 y.f9.f3.length c12, .int .i64 y.f10.f0, .int .i64 y.f10.f1, .int .i64 y.f10.f2, .slice A16 y.f10.f3.length c16] (0, 0) _ HY5.out Tryz.underlying34 rfl (by kernel_rfl) ?_
   go_wp2_with fail
   have hm : MsgC w5 y A8 c8 A12 c12 A16 c16 := ⟨(Kd.R_reads' HX8.out).2.1, (Kd.R_reads' HX8.out).2.2, (Kd.R_reads' HX12.out).2.1, (Kd.R_reads' HX12.out).2.2, (Kd.R_reads' HX16.out).2.1, (Kd.R_reads' HX16.out).2.2⟩
   refine (refMayMs_is y hm).mono ?_
   rintro e w6 ⟨rfl, hb⟩
   have HI6 := Lib.hid (HI5.out.below hb)
   have HB6 := Lib.hid (HB5.out.trans (hb.mono HB5.out.size))
   have HY6 := Lib.hid ((hb.block g HGZ5.out).trans HY5.out)
   have HU8 := Lib.hid (Kd.R_below HX8.out hb)
   have HU12 := Lib.hid (Kd.R_below HX12.out hb)
   have HU16 := Lib.hid (Kd.R_below HX16.out hb)
   have HG6 := Lib.hid ((HB6.out.block w.heap.size HZ.out).trans HG.out)
   have HBW := Lib.hid (HB.out.trans (HB6.out.mono (Nat.le_of_lt HZ.out)))
   clear hm hb HI5 HB5 HY5 HX8 HX12 HX16 HGZ5
   have HE := rdEnds_is HI6.out (mayMs y)
   rw [HE2.out] at HE
   have HE := Lib.hid HE
   go_wp2_with fail
   refine HE.out.mono ?_
   rintro e w7 ⟨rfl, rfl⟩
   clear HE
   by_cases he : e2 = 0
   case pos =>
    have HR := Lib.hid (show unm l = (y, 0) by rw [HR1.out, if_pos he])
    have q : (e2 != 0) = false := by rw [he]; rfl
    clear he HR1
    go_upto_region 12 with fail
    refine wp_region_list ?_
    refine wpList_load_row rfl 34 (.tmp 8) rfl g rfl 34 #[.int .i64 y.f0, .int .i64 y.f1, .int .i64 y.f2, .int .i64 y.f3, .int .i64 y.f4, .int .i64 y.f5, .int .i64 y.f6, .bool y.f7, .slice A8 y.f8.length c8, .int .i64 y.f9.f0, .int .i64 y.f9.f1, .int .i64 y.f9.f2, .slice A12 y.f9.f3.length c12, .int .i64 y.f10.f0, .int .i64 y.f10.f1, .int .i64 y.f10.f2, .slice A16 y.f10.f3.length c16] (0, 0) _ HY6.out Tryz.underlying34 rfl (by kernel_rfl) ?_
    refine wpList_store_row rfl 34 (.tmp 2) (.tmp 40) rfl w.heap.size #[.int .i64 y.f0, .int .i64 y.f1, .int .i64 y.f2, .int .i64 y.f3, .int .i64 y.f4, .int .i64 y.f5, .int .i64 y.f6, .bool y.f7, .slice A8 y.f8.length c8, .int .i64 y.f9.f0, .int .i64 y.f9.f1, .int .i64 y.f9.f2, .slice A12 y.f9.f3.length c12, .int .i64 y.f10.f0, .int .i64 y.f10.f1, .int .i64 y.f10.f2, .slice A16 y.f10.f3.length c16] rfl rfl 34 #[.int .i64 0, .int .i64 0, .int .i64 0, .int .i64 0, .int .i64 0, .int .i64 0, .int .i64 0, .bool false, .slice none 0 0, .int .i64 0, .int .i64 0, .int .i64 0, .slice none 0 0, .int .i64 0, .int .i64 0, .int .i64 0, .slice none 0 0] HG6.out (by kernel_rfl) rfl (by simp [Value.oneCell']) ?_
    have HEB := Lib.hid (setRow_heap w7 w.heap.size #[.int .i64 0, .int .i64 0, .int .i64 0, .int .i64 0, .int .i64 0, .int .i64 0, .int .i64 0, .bool false, .slice none 0 0, .int .i64 0, .int .i64 0, .int .i64 0, .slice none 0 0, .int .i64 0, .int .i64 0, .int .i64 0, .slice none 0 0] #[.int .i64 y.f0, .int .i64 y.f1, .int .i64 y.f2, .int .i64 y.f3, .int .i64 y.f4, .int .i64 y.f5, .int .i64 y.f6, .bool y.f7, .slice A8 y.f8.length c8, .int .i64 y.f9.f0, .int .i64 y.f9.f1, .int .i64 y.f9.f2, .slice A12 y.f9.f3.length c12, .int .i64 y.f10.f0, .int .i64 y.f10.f1, .int .i64 y.f10.f2, .slice A16 y.f10.f3.length c16] 34 (0, 0) HG6.out)
    have HBE := Lib.hid (setRow_below (cs := #[.int .i64 0, .int .i64 0, .int .i64 0, .int .i64 0, .int .i64 0, .int .i64 0, .int .i64 0, .bool false, .slice none 0 0, .int .i64 0, .int .i64 0, .int .i64 0, .slice none 0 0, .int .i64 0, .int .i64 0, .int .i64 0, .slice none 0 0]) (cs' := #[.int .i64 y.f0, .int .i64 y.f1, .int .i64 y.f2, .int .i64 y.f3, .int .i64 y.f4, .int .i64 y.f5, .int .i64 y.f6, .bool y.f7, .slice A8 y.f8.length c8, .int .i64 y.f9.f0, .int .i64 y.f9.f1, .int .i64 y.f9.f2, .slice A12 y.f9.f3.length c12, .int .i64 y.f10.f0, .int .i64 y.f10.f1, .int .i64 y.f10.f2, .slice A16 y.f10.f3.length c16]) (t := 34) HBW.out (Nat.le_refl _))
    obtain ⟨W, hW⟩ : ∃ W, w7.setRow w.heap.size #[.int .i64 y.f0, .int .i64 y.f1, .int .i64 y.f2, .int .i64 y.f3, .int .i64 y.f4, .int .i64 y.f5, .int .i64 y.f6, .bool y.f7, .slice A8 y.f8.length c8, .int .i64 y.f9.f0, .int .i64 y.f9.f1, .int .i64 y.f9.f2, .slice A12 y.f9.f3.length c12, .int .i64 y.f10.f0, .int .i64 y.f10.f1, .int .i64 y.f10.f2, .slice A16 y.f10.f3.length c16] = W := ⟨_, rfl⟩
    rw [hW] at HEB HBE ⊢
    have hkp : ∀ k, k < w7.heap.size → k ≠ w.heap.size → W.heap[k]? = w7.heap[k]? := fun k _ hne => by rw [← hW]; exact setRow_other w7 w.heap.size k _ hne
    have HQ8 := Lib.hid (Kd.R_mono (Kd.R_step (Kd.R_lower (Kd.R_bound HU8.out) HSZ.out) (fun k hk hlt => hkp k hlt (by have h1 := hk.2.1; have h2 := HZ2.out; omega))) (fun _ _ => trivial) : Kd.R G.k63 63 W w.heap.size (fun _ => True) _ _)
    have HQ12 := Lib.hid (Kd.R_mono (Kd.R_step (Kd.R_lower (Kd.R_bound HU12.out) HSZ.out) (fun k hk hlt => hkp k hlt (by have h1 := hk.2.1; have h2 := HZ2.out; omega))) (fun _ _ => trivial) : Kd.R G.k26 26 W w.heap.size (fun _ => True) _ _)
    have HQ16 := Lib.hid (Kd.R_mono (Kd.R_step (Kd.R_lower (Kd.R_bound HU16.out) HSZ.out) (fun k hk hlt => hkp k hlt (by have h1 := hk.2.1; have h2 := HZ2.out; omega))) (fun _ _ => trivial) : Kd.R (Kd.int .u8) 5 W w.heap.size (fun _ => True) _ _)
    clear hkp
    clear hW
    go_wp2_with fail
    refine bodyPost_ret (results_ct rfl _ _ w.heap.size 34 #[.int .i64 y.f0, .int .i64 y.f1, .int .i64 y.f2, .int .i64 y.f3, .int .i64 y.f4, .int .i64 y.f5, .int .i64 y.f6, .bool y.f7, .slice A8 y.f8.length c8, .int .i64 y.f9.f0, .int .i64 y.f9.f1, .int .i64 y.f9.f2, .slice A12 y.f9.f3.length c12, .int .i64 y.f10.f0, .int .i64 y.f10.f1, .int .i64 y.f10.f2, .slice A16 y.f10.f3.length c16] (0, 0) _ rfl HEB.out Tryz.underlying34 rfl (by kernel_rfl)) rfl ?_
    rw [HR.out]
    exact ⟨_, _, _, rfl, HQ8.out, HQ12.out, HQ16.out, HBE.out⟩
   case neg =>
    have HR := Lib.hid (show unm l = (zM, e2) by rw [HR1.out, if_neg he])
    have q : (e2 != 0) = true := bne_iff_ne.2 he
    clear he HR1
    go_upto_region 11 with fail
    refine wp_region_list ?_
    refine wpList_cut 2 ?_
    simp only [List.take_succ_cons, List.take_zero, List.drop_succ_cons, List.drop_zero]
    go_wp2_with fail
    refine Halt.mk ?_
    refine wpList_store_row rfl 34 (.tmp 2) (.tmp 38) rfl w.heap.size #[.int .i64 0, .int .i64 0, .int .i64 0, .int .i64 0, .int .i64 0, .int .i64 0, .int .i64 0, .bool false, .slice none 0 0, .int .i64 0, .int .i64 0, .int .i64 0, .slice none 0 0, .int .i64 0, .int .i64 0, .int .i64 0, .slice none 0 0] rfl rfl 34 #[.int .i64 0, .int .i64 0, .int .i64 0, .int .i64 0, .int .i64 0, .int .i64 0, .int .i64 0, .bool false, .slice none 0 0, .int .i64 0, .int .i64 0, .int .i64 0, .slice none 0 0, .int .i64 0, .int .i64 0, .int .i64 0, .slice none 0 0] HG6.out (by kernel_rfl) rfl (by simp [Value.oneCell']) ?_
    have HEB := Lib.hid (setRow_heap w7 w.heap.size #[.int .i64 0, .int .i64 0, .int .i64 0, .int .i64 0, .int .i64 0, .int .i64 0, .int .i64 0, .bool false, .slice none 0 0, .int .i64 0, .int .i64 0, .int .i64 0, .slice none 0 0, .int .i64 0, .int .i64 0, .int .i64 0, .slice none 0 0] #[.int .i64 0, .int .i64 0, .int .i64 0, .int .i64 0, .int .i64 0, .int .i64 0, .int .i64 0, .bool false, .slice none 0 0, .int .i64 0, .int .i64 0, .int .i64 0, .slice none 0 0, .int .i64 0, .int .i64 0, .int .i64 0, .slice none 0 0] 34 (0, 0) HG6.out)
    have HBE := Lib.hid (setRow_below (cs := #[.int .i64 0, .int .i64 0, .int .i64 0, .int .i64 0, .int .i64 0, .int .i64 0, .int .i64 0, .bool false, .slice none 0 0, .int .i64 0, .int .i64 0, .int .i64 0, .slice none 0 0, .int .i64 0, .int .i64 0, .int .i64 0, .slice none 0 0]) (cs' := #[.int .i64 0, .int .i64 0, .int .i64 0, .int .i64 0, .int .i64 0, .int .i64 0, .int .i64 0, .bool false, .slice none 0 0, .int .i64 0, .int .i64 0, .int .i64 0, .slice none 0 0, .int .i64 0, .int .i64 0, .int .i64 0, .slice none 0 0]) (t := 34) HBW.out (Nat.le_refl _))
    obtain ⟨W, hW⟩ : ∃ W, w7.setRow w.heap.size #[.int .i64 0, .int .i64 0, .int .i64 0, .int .i64 0, .int .i64 0, .int .i64 0, .int .i64 0, .bool false, .slice none 0 0, .int .i64 0, .int .i64 0, .int .i64 0, .slice none 0 0, .int .i64 0, .int .i64 0, .int .i64 0, .slice none 0 0] = W := ⟨_, rfl⟩
    rw [hW] at HEB HBE ⊢
    clear hW
    go_wp2_with fail
    refine bodyPost_ret (results_ct rfl _ _ w.heap.size 34 #[.int .i64 0, .int .i64 0, .int .i64 0, .int .i64 0, .int .i64 0, .int .i64 0, .int .i64 0, .bool false, .slice none 0 0, .int .i64 0, .int .i64 0, .int .i64 0, .slice none 0 0, .int .i64 0, .int .i64 0, .int .i64 0, .slice none 0 0] (0, 0) _ rfl HEB.out Tryz.underlying34 rfl (by kernel_rfl)) rfl ?_
    rw [HR.out]
    exact ⟨_, _, _, rfl, Kd.R_nil _ _ _ _ _, Kd.R_nil _ _ _ _ _, Kd.R_nil _ _ _ _ _, HBE.out⟩
end Go.Proofs.YtgiefblcckikeaaGreat.M
end

section
/- The reference's TakeEntry (printed by genunm04.py). -/
set_option maxRecDepth 100000
attribute [local irreducible] Go.wpStill
namespace Go.Proofs.YtgiefblcckikeaaGreat.M
open Go.RowKit Go.Proofs.YtgiefblcckikeaaGreatW.PrintWords Go.Proofs.YtgiefblcckikeaaGreatW.PrintLast Go.Proofs.YtgiefblcckikeaaGreatW.PrintMore Go.Proofs.YtgiefblcckikeaaGreat.G
set_option maxHeartbeats 4000000 in
theorem refTakeEn_is (A : Option Addr) (c : Nat) (l : List Int) (w : World) (hr : Kd.C (Kd.int .u8) w A l.length l) (hc : l.length ≤ c) (hb : okB l = true) (hl : l.length < 140737488355328) :
  Calls Tryz.prog 24 #[.slice A l.length c] w fun e w' => ∃ v : Value, e = .returned (.tuple #[.agg #[.int .i64 (takeEn l).1.1, .int .i64 (takeEn l).1.2.1, .int .i64 (takeEn l).1.2.2.1, v], .int .i64 (takeEn l).2]) ∧ Kd.R G.k26 26 w' w.heap.size (fun _ => True) v (takeEn l).1.2.2.2 ∧ Below w.heap.size w w' := by
 have h0 := heap_alloc_new w (.cells #[.int .i64 0, .int .i64 0, .int .i64 0, .slice none 0 0] 29)
 have s1 : (w.alloc (.cells #[.int .i64 0, .int .i64 0, .int .i64 0, .slice none 0 0] 29)).heap.size = w.heap.size + 1 := by simp
 have h1 := heap_alloc_new (w.alloc (.cells #[.int .i64 0, .int .i64 0, .int .i64 0, .slice none 0 0] 29)) (.cells #[.slice A l.length c, .int .i64 0, .int .i64 0, .bool false] 86)
 have b1 := ((Below.refl _ w).alloc (Nat.le_refl _) (.cells #[.int .i64 0, .int .i64 0, .int .i64 0, .slice none 0 0] 29)).alloc (by simp) (.cells #[.slice A l.length c, .int .i64 0, .int .i64 0, .bool false] 86)
 have g1 : ((w.alloc (.cells #[.int .i64 0, .int .i64 0, .int .i64 0, .slice none 0 0] 29)).alloc (.cells #[.slice A l.length c, .int .i64 0, .int .i64 0, .bool false] 86)).heap[w.heap.size]? = some (.cells #[.int .i64 0, .int .i64 0, .int .i64 0, .slice none 0 0] 29) := (((Below.refl _ (w.alloc (.cells #[.int .i64 0, .int .i64 0, .int .i64 0, .slice none 0 0] 29))).alloc (Nat.le_refl _) (.cells #[.slice A l.length c, .int .i64 0, .int .i64 0, .bool false] 86)).block w.heap.size (by omega)).trans h0
 have s2 : ((w.alloc (.cells #[.int .i64 0, .int .i64 0, .int .i64 0, .slice none 0 0] 29)).alloc (.cells #[.slice A l.length c, .int .i64 0, .int .i64 0, .bool false] 86)).heap.size = w.heap.size + 1 + 1 := by simp
 rw [s1] at h1
 obtain ⟨⟨k, f, n, t⟩, hy⟩ : ∃ y, (rEntry ⟨l, 0, false⟩).1 = y := ⟨_, rfl⟩
 obtain ⟨s', hs⟩ : ∃ s', (rEntry ⟨l, 0, false⟩).2 = s' := ⟨_, rfl⟩
 obtain ⟨er, her⟩ : ∃ er, eEnds (rEnd s') (mayE k f n t) false = er := ⟨_, rfl⟩
 have HR1 := Lib.hid (show takeEn l = if er = 0 then ((k, f, n, t), 0) else ((0, 0, 0, []), er) by rw [takeEn_r, hy, hs, ← her]; rfl)
 have HER := Lib.hid her
 have HOK := Lib.hid (show okS ⟨l, 0, false⟩ from ⟨hb, hl⟩)
 go_enter Tryz.func24, Tryz.ntmps24
 go_wp2_with fail
 obtain ⟨w2, hw2⟩ : ∃ w2, (w.alloc (.cells #[.int .i64 0, .int .i64 0, .int .i64 0, .slice none 0 0] 29)).alloc (.cells #[.slice A l.length c, .int .i64 0, .int .i64 0, .bool false] 86) = w2 := ⟨_, rfl⟩
 obtain ⟨x, hx⟩ : ∃ x, w.heap.size + 1 = x := ⟨_, rfl⟩
 rw [hw2] at h1 s2 b1 g1 ⊢
 rw [hx] at h1 s1 s2 ⊢
 have HN := rdEntry_is (show IsRd l w w2 x ⟨l, 0, false⟩ from ⟨A, c, 0, h1, by omega, hc, hr, Nat.zero_le _, rfl, hl⟩) b1 HOK.out
 rw [hy, hs] at HN
 have HN := Lib.hid HN
 have HX := Lib.hid hx; have HS2 := Lib.hid s2; have HG2 := Lib.hid g1
 clear h0 s1 h1 s2 b1 g1 hw2 hx hy hs her hr hc hb hl
 refine HN.out.mono ?_
 rintro e w3 ⟨v, rfl, hv, h1, h2, h3⟩
 have hv : Kd.R G.k26 26 w3 w2.heap.size (fun _ => True) v t := hv
 obtain ⟨At, ct, rfl⟩ := Kd.R_slice hv
 have HV := Lib.hid hv; have HI3 := Lib.hid h1; have HB3 := Lib.hid h2
 have HXW := Lib.hid (show w.heap.size < x ∧ x < w2.heap.size by have := HS2.out; have := HX.out; omega)
 have HG3 := Lib.hid ((h3.block w.heap.size (by have := HXW.out; omega) (by have := HXW.out; omega)).trans HG2.out)
 have HZ3 := Lib.hid h3.size
 clear hv h1 h2 h3 HN HG2
 go_wp2_with fail
 have hby := heap_alloc_new w3 (.cells #[.int .i64 k, .int .i64 f, .int .i64 n, .slice At t.length ct] 29)
 have hay := (Below.refl _ w3).alloc (Nat.le_refl _) (.cells #[.int .i64 k, .int .i64 f, .int .i64 n, .slice At t.length ct] 29)
 obtain ⟨w4, hw4⟩ : ∃ w4, w3.alloc (.cells #[.int .i64 k, .int .i64 f, .int .i64 n, .slice At t.length ct] 29) = w4 := ⟨_, rfl⟩
 rw [hw4] at hby hay ⊢
 have HI4 := Lib.hid (HI3.out.below hay)
 have HB4 := Lib.hid (HB3.out.trans (hay.mono HB3.out.size))
 have HG4 := Lib.hid ((hay.block w.heap.size (by have := HXW.out; have := HZ3.out; omega)).trans HG3.out)
 have HV4 := Lib.hid (Kd.R_below HV.out hay)
 obtain ⟨g, hg⟩ : ∃ g, w3.heap.size = g := ⟨_, rfl⟩
 have hgz : g < w4.heap.size := by rw [← hg]; exact (Array.getElem?_eq_some_iff.1 hby).1
 rw [hg] at hby HZ3 ⊢
 have HY4 := Lib.hid hby; have HGZ := Lib.hid hgz
 clear hw4 hg hby hay hgz HI3 HB3 HG3 HV
 refine (rdEnd_is HI4.out HB4.out).mono ?_
 rintro e w5 ⟨rfl, h1, h2, h3⟩
 have HI5 := Lib.hid h1; have HB5 := Lib.hid h2
 have HG5 := Lib.hid ((h3.block w.heap.size (by have := HXW.out; have := HZ3.out; have := HGZ.out; omega) (by have := HXW.out; omega)).trans HG4.out)
 have HY5 := Lib.hid ((h3.block g HGZ.out (by have := HXW.out; have := HZ3.out; omega)).trans HY4.out)
 have HV5 := Lib.hid (R_keep' HXW.out.2 HV4.out h3)
 have HGZ5 := Lib.hid (Nat.lt_of_lt_of_le HGZ.out h3.size)
 clear h1 h2 h3 HI4 HB4 HG4 HY4 HV4 HGZ
 obtain ⟨d0, d1, d2, d3⟩ := bc4 HY5.out
 go_wp2_with fail
 refine (refMayEn_is k f n At ct t w5 (Kd.R_reads' HV5.out).2.2 (Kd.R_reads' HV5.out).2.1).mono ?_
 rintro e w6 ⟨rfl, hb⟩
 have HI6 := Lib.hid (HI5.out.below hb)
 have HB6 := Lib.hid (HB5.out.trans (hb.mono HB5.out.size))
 have HG6 := Lib.hid ((hb.block w.heap.size (by have := HXW.out; have := HZ3.out; have := HGZ5.out; omega)).trans HG5.out)
 have HY6 := Lib.hid ((hb.block g HGZ5.out).trans HY5.out)
 have HV6 := Lib.hid (Kd.R_below HV5.out hb)
 have HE := rdEnds_is HI6.out (mayE k f n t)
 rw [HER.out] at HE
 have HE := Lib.hid HE
 clear hb d0 d1 d2 d3 HI5 HB5 HG5 HY5 HV5 HGZ5
 go_wp2_with fail
 refine HE.out.mono ?_
 rintro e w7 ⟨rfl, rfl⟩
 obtain ⟨d0, d1, d2, d3⟩ := bc4 HY6.out
 have x0 : w7.cell? ⟨w.heap.size, 0, none⟩ = some (.int .i64 0) := (blk_cell HG6.out 0).trans rfl
 have x1 : w7.cell? ⟨w.heap.size, 1, none⟩ = some (.int .i64 0) := (blk_cell HG6.out 1).trans rfl
 have x2 : w7.cell? ⟨w.heap.size, 2, none⟩ = some (.int .i64 0) := (blk_cell HG6.out 2).trans rfl
 have x3 : w7.cell? ⟨w.heap.size, 3, none⟩ = some (.slice none 0 0) := (blk_cell HG6.out 3).trans rfl
 have y0 : w7.frozen? ⟨w.heap.size, 0, none⟩ = false := blk_frozen HG6.out 0
 have y1 : w7.frozen? ⟨w.heap.size, 1, none⟩ = false := blk_frozen HG6.out 1
 have y2 : w7.frozen? ⟨w.heap.size, 2, none⟩ = false := blk_frozen HG6.out 2
 have y3 : w7.frozen? ⟨w.heap.size, 3, none⟩ = false := blk_frozen HG6.out 3
 have HGN : w.heap.size ≠ g := by have := HXW.out; have := HZ3.out; omega
 by_cases he : er = 0
 ·have hq : (er != 0) = false := by rw [he]; rfl
  have HR := Lib.hid (show takeEn l = ((k, f, n, t), 0) by rw [HR1.out, if_pos he])
  clear he
  go_wp2_with fail
  have HEB := Lib.hid (blk_put (cs := #[.int .i64 k, .int .i64 f, .int .i64 n, .slice none 0 0]) (blk_put (cs := #[.int .i64 k, .int .i64 f, .int .i64 0, .slice none 0 0]) (blk_put (cs := #[.int .i64 k, .int .i64 0, .int .i64 0, .slice none 0 0]) (blk_put (cs := #[.int .i64 0, .int .i64 0, .int .i64 0, .slice none 0 0]) HG6.out 0 (.int .i64 k) rfl) 1 (.int .i64 f) rfl) 2 (.int .i64 n) rfl) 3 (.slice At t.length ct) rfl)
  have HKS := Lib.hid (((((KeepS.refl (fun k => k = w.heap.size) w7).set (p := ⟨w.heap.size, 0, none⟩) (.inl rfl) (.int .i64 k)).set (p := ⟨w.heap.size, 1, none⟩) (.inl rfl) (.int .i64 f)).set (p := ⟨w.heap.size, 2, none⟩) (.inl rfl) (.int .i64 n)).set (p := ⟨w.heap.size, 3, none⟩) (.inl rfl) (.slice At t.length ct))
  obtain ⟨W, hW⟩ : ∃ W, ((((w7.setCell ⟨w.heap.size, 0, none⟩ (.int .i64 k)).setCell ⟨w.heap.size, 1, none⟩ (.int .i64 f)).setCell ⟨w.heap.size, 2, none⟩ (.int .i64 n)).setCell ⟨w.heap.size, 3, none⟩ (.slice At t.length ct)) = W := ⟨_, rfl⟩
  rw [hW] at HEB HKS ⊢
  clear hW
  refine bodyPost_ret (results_ct rfl _ _ w.heap.size 29 #[.int .i64 k, .int .i64 f, .int .i64 n, .slice At t.length ct] (0, 0) _ rfl HEB.out Tryz.underlying29 rfl (by kernel_rfl)) rfl ?_
  rw [HR.out]
  exact ⟨_, rfl, Kd.R_mono (Kd.R_step (Kd.R_lower (Kd.R_bound HV6.out) (Nat.le_of_lt (Nat.lt_trans HXW.out.1 HXW.out.2))) (fun k hk hlt => HKS.out.block k hlt (fun (e : k = w.heap.size) => by have := hk.2.1; have := HXW.out; omega))) (fun _ _ => trivial), HB6.out.trans (HKS.out.below (B := w.heap.size) HB6.out.size (by rintro i rfl; exact Nat.le_refl _))⟩
 ·have hq : (er != 0) = true := bne_iff_ne.2 he
  have HR := Lib.hid (show takeEn l = ((0, 0, 0, []), er) by rw [HR1.out, if_neg he])
  clear he
  go_wp2_with fail
  have HEB := Lib.hid (blk_put (cs := #[.int .i64 0, .int .i64 0, .int .i64 0, .slice none 0 0]) (blk_put (cs := #[.int .i64 0, .int .i64 0, .int .i64 0, .slice none 0 0]) (blk_put (cs := #[.int .i64 0, .int .i64 0, .int .i64 0, .slice none 0 0]) (blk_put (cs := #[.int .i64 0, .int .i64 0, .int .i64 0, .slice none 0 0]) HG6.out 0 (.int .i64 0) rfl) 1 (.int .i64 0) rfl) 2 (.int .i64 0) rfl) 3 (.slice none 0 0) rfl)
  have HKS := Lib.hid (((((KeepS.refl (fun k => k = w.heap.size) w7).set (p := ⟨w.heap.size, 0, none⟩) (.inl rfl) (.int .i64 0)).set (p := ⟨w.heap.size, 1, none⟩) (.inl rfl) (.int .i64 0)).set (p := ⟨w.heap.size, 2, none⟩) (.inl rfl) (.int .i64 0)).set (p := ⟨w.heap.size, 3, none⟩) (.inl rfl) (.slice none 0 0))
  obtain ⟨W, hW⟩ : ∃ W, ((((w7.setCell ⟨w.heap.size, 0, none⟩ (.int .i64 0)).setCell ⟨w.heap.size, 1, none⟩ (.int .i64 0)).setCell ⟨w.heap.size, 2, none⟩ (.int .i64 0)).setCell ⟨w.heap.size, 3, none⟩ (.slice none 0 0)) = W := ⟨_, rfl⟩
  rw [hW] at HEB HKS ⊢
  clear hW
  refine bodyPost_ret (results_ct rfl _ _ w.heap.size 29 #[.int .i64 0, .int .i64 0, .int .i64 0, .slice none 0 0] (0, 0) _ rfl HEB.out Tryz.underlying29 rfl (by kernel_rfl)) rfl ?_
  rw [HR.out]
  exact ⟨_, rfl, Kd.R_nil _ _ _ _ _, HB6.out.trans (HKS.out.below (B := w.heap.size) HB6.out.size (by rintro i rfl; exact Nat.le_refl _))⟩
end Go.Proofs.YtgiefblcckikeaaGreat.M
end

section
-- Written by a program of this session's (wip/gprint.py over the kit's printer).
namespace Go.Proofs.YtgiefblcckikeaaGreat.G
open Go.RowKit Go.Proofs.YtgiefblcckikeaaGreatW.PrintWords Go.Proofs.YtgiefblcckikeaaGreatW.PrintLast Go.Proofs.YtgiefblcckikeaaGreatW.PrintMore
attribute [local go_sem] max2_int min2_int max_two min_two max_three min_three max_four min_four   -- for this text's walks alone
def trivetlaw04_simple.f  : Option (Int × Int × Int × (List (S26)) × List Int) := some (1, 2, 5, (([(⟨1, 3, ([] : List Int), ([] : List Int), ([] : List (S101)), ([] : List (S101))⟩ : S26)] : List (S26))), (([2, 1, 2, 2, 2, 5, 2, 1, 2, 1, 2, 3, 0, 0, 0, 0] : List Int)))
set_option maxHeartbeats 8000000 in
set_option maxRecDepth 100000 in
theorem trivetlaw04_simple.calls  (r1 : Int) (r2 : Int) (r3 : Int) (r4 : List (S26)) (r5 : List Int) (w : World) (h : trivetlaw04_simple.f  = some (r1, r2, r3, r4, r5)) :
  Calls Tryz.prog 37 #[] w fun e w' => ∃ v3_ v4_ : Value, e = .returned (.tuple #[.agg #[.int .i64 r1, .int .i64 r2, .int .i64 r3, v3_], v4_]) ∧ Kd.S k26 26 w' w.heap.size (fun k_ => some k_ ≠ (v4_ : Value).ownBlock) v3_ r4 ∧ Kd.R (Kd.int .u8) 5 w' w.heap.size (fun _ => True) v4_ r5 ∧ Below w.heap.size w w' := by
 have hu29 := Tryz.underlying29
 have hu26 := Tryz.underlying26
 have HB := Aside0.mk (Below.refl w.heap.size w)
 have H : (some (1, 2, 5, (([(⟨1, 3, ([] : List Int), ([] : List Int), ([] : List (S101)), ([] : List (S101))⟩ : S26)] : List (S26))), (([2, 1, 2, 2, 2, 5, 2, 1, 2, 1, 2, 3, 0, 0, 0, 0] : List Int)))) = some (r1, r2, r3, r4, r5) := h
 clear h
 obtain ⟨y153, hy153⟩ : ∃ y_ : List (S26), y_ = (([(⟨1, 3, ([] : List Int), ([] : List Int), ([] : List (S101)), ([] : List (S101))⟩ : S26)] : List (S26))) := ⟨_, rfl⟩
 replace H : (some (1, 2, 5, y153, (([2, 1, 2, 2, 2, 5, 2, 1, 2, 1, 2, 3, 0, 0, 0, 0] : List Int)))) = some (r1, r2, r3, r4, r5) := by first | (rw [hy153]; with_reducible exact H) | (have H2_ := (Option.bind_some _ _).symm.trans H; rw [hy153]; with_reducible exact H2_) | (have H2_ := (Option.bind_some _ _).symm.trans H; with_reducible exact H2_) | with_reducible exact H | (rw [hy153]; exact H) | exact H
 have Ny153 := Aside0.mk hy153
 clear hy153
 obtain ⟨y156, hy156⟩ : ∃ y_ : List Int, y_ = (([2, 1, 2, 2, 2, 5, 2, 1, 2, 1, 2, 3, 0, 0, 0, 0] : List Int)) := ⟨_, rfl⟩
 replace H : (some (1, 2, 5, y153, y156)) = some (r1, r2, r3, r4, r5) := by first | (rw [hy156]; with_reducible exact H) | (have H2_ := (Option.bind_some _ _).symm.trans H; rw [hy156]; with_reducible exact H2_) | (have H2_ := (Option.bind_some _ _).symm.trans H; with_reducible exact H2_) | with_reducible exact H | (rw [hy156]; exact H) | exact H
 have Ny156 := Aside0.mk hy156
 clear hy156
 simp only [Option.some.injEq, Prod.mk.injEq] at H
 obtain ⟨rfl, rfl, rfl, rfl, rfl⟩ := H
 go_enter Tryz.func37, Tryz.ntmps37
 go_wp2_with (first | ((with_reducible refine gate_dst (N := 0) rfl ?_); refine box_event ?hg (N := 0) ?hd (cs := #[.int .i64 0, .int .i64 0, .int .i64 0, .slice none 0 0]) (t := 29) ?hr ?_; (case hd => rfl); (case hg => rfl); (case hr => first | (go_simp; done) | (go_simp; rfl)); intro gb152 hg w1 hbox hb; have n0_ := Aside0.mk (below_step (stB HB.out) hb); have n1_ := Aside0.mk (hbox); have n2_ := Aside0.mk ((by rw [hg]; exact (below_size (stB HB.out)) : w.heap.size ≤ gb152)); have n3_ := Aside0.mk ((by rw [hg]; exact (below_size (stB HB.out)) : w.heap.size ≤ gb152)); clear HB; have HB := n0_; have BK152 := n1_; have GW152 := n2_; have GE152 := n3_; clear n0_ n1_ n2_ n3_; clear hb hbox hg) | ((with_reducible refine gate_dst (N := 3) rfl ?_); refine Kd.S_lit k26 _ 26 ?hg (N := 3) ?hd (xs := ([(⟨1, 3, ([] : List Int), ([] : List Int), ([] : List (S101)), ([] : List (S101))⟩ : S26)] : List (S26))) (inner := [.int .i64 1, .int .i64 3, .slice none 0 0, .slice none 0 0, .slice none 0 0, .slice none 0 0]) (ok := fun _ => True) (okp := fun _ => True) ?hr ?hp (fun _ hk => hk) trivial (Below.refl _ _) (Nat.le_refl _) (by simp) ?_; (case hd => rfl); (case hg => rfl); (case hr => first | (go_simp; done) | (go_simp; rfl)); (case hp => exact (Reps.c6 (show Kd.M k26 _ _ _ (⟨1, 3, ([] : List Int), ([] : List Int), ([] : List (S101)), ([] : List (S101))⟩ : S26) [.int .i64 1, .int .i64 3, .slice none 0 0, .slice none 0 0, .slice none 0 0, .slice none 0 0] from (k26_mkM _ _ _ (⟨1, 3, ([] : List Int), ([] : List Int), ([] : List (S101)), ([] : List (S101))⟩ : S26) (Kd.R_nil _ _ _ _ _) (Kd.R_nil _ _ _ _ _) (Kd.R_nil _ _ _ _ _) (Kd.R_nil _ _ _ _ _))) (Reps.none _ _))); intro v154 w2 ho3 hb hg_ hnew_; clear hg_ hnew_; (first | rw [← Ny153.out] at ho3 | (simp only [Int.reduceToNat] at ho3; rw [← Ny153.out] at ho3)); have n0_ := Aside0.mk (Kd.S_lower ho3 (below_size (by repeat (first | (with_reducible first | exact HB.out | apply below_alloc | apply pw_below_drewN | apply below_drew1 | refine below_set ?_ GE152.out) | exact HB.out)))); have n1_ := Aside0.mk (blk_below (g := gb152) (o := .cells #[.int .i64 0, .int .i64 0, .int .i64 0, .slice none 0 0] 29 (0, 0)) (stK BK152.out) hb); have n2_ := Aside0.mk (below_step (by repeat (first | (with_reducible first | exact HB.out | apply below_alloc | apply pw_below_drewN | apply below_drew1 | refine below_set ?_ GE152.out) | exact HB.out)) hb); clear BK152; clear HB; have HO155 := n0_; have BK152 := n1_; have HB := n2_; clear n0_ n1_ n2_; clear hb ho3; obtain ⟨Ao4, co4, eo4⟩ := Kd.S_slice HO155.out; subst eo4) | ((with_reducible refine gate_dst (N := 5) rfl ?_); refine Kd.R_lit (Kd.int .u8) _ 5 ?hg (N := 5) ?hd (xs := ([2, 1, 2, 2, 2, 5, 2, 1, 2, 1, 2, 3, 0, 0, 0, 0] : List Int)) (inner := [.int .u8 2, .int .u8 1, .int .u8 2, .int .u8 2, .int .u8 2, .int .u8 5, .int .u8 2, .int .u8 1, .int .u8 2, .int .u8 1, .int .u8 2, .int .u8 3, .int .u8 0, .int .u8 0, .int .u8 0, .int .u8 0]) (ok := fun _ => True) (okp := fun _ => True) ?hr ?hp (fun _ hk => hk) trivial (Below.refl _ _) (Nat.le_refl _) (by simp) ?_; (case hd => rfl); (case hg => rfl); (case hr => first | (go_simp; done) | (go_simp; rfl)); (case hp => exact (Reps.one (show Kd.M (Kd.int .u8) _ _ _ 2 [.int .u8 2] from rfl) (Reps.one (show Kd.M (Kd.int .u8) _ _ _ 1 [.int .u8 1] from rfl) (Reps.one (show Kd.M (Kd.int .u8) _ _ _ 2 [.int .u8 2] from rfl) (Reps.one (show Kd.M (Kd.int .u8) _ _ _ 2 [.int .u8 2] from rfl) (Reps.one (show Kd.M (Kd.int .u8) _ _ _ 2 [.int .u8 2] from rfl) (Reps.one (show Kd.M (Kd.int .u8) _ _ _ 5 [.int .u8 5] from rfl) (Reps.one (show Kd.M (Kd.int .u8) _ _ _ 2 [.int .u8 2] from rfl) (Reps.one (show Kd.M (Kd.int .u8) _ _ _ 1 [.int .u8 1] from rfl) (Reps.one (show Kd.M (Kd.int .u8) _ _ _ 2 [.int .u8 2] from rfl) (Reps.one (show Kd.M (Kd.int .u8) _ _ _ 1 [.int .u8 1] from rfl) (Reps.one (show Kd.M (Kd.int .u8) _ _ _ 2 [.int .u8 2] from rfl) (Reps.one (show Kd.M (Kd.int .u8) _ _ _ 3 [.int .u8 3] from rfl) (Reps.one (show Kd.M (Kd.int .u8) _ _ _ 0 [.int .u8 0] from rfl) (Reps.one (show Kd.M (Kd.int .u8) _ _ _ 0 [.int .u8 0] from rfl) (Reps.one (show Kd.M (Kd.int .u8) _ _ _ 0 [.int .u8 0] from rfl) (Reps.one (show Kd.M (Kd.int .u8) _ _ _ 0 [.int .u8 0] from rfl) (Reps.none _ _)))))))))))))))))); intro v157 w5 ho6 hb hg_ hnew_; clear hg_ hnew_; (first | rw [← Ny156.out] at ho6 | (simp only [Int.reduceToNat] at ho6; rw [← Ny156.out] at ho6)); have n0_ := Aside0.mk (Kd.S_elder' (stS HO155.out) (Kd.R_base ho6) hb); have n1_ := Aside0.mk (Kd.R_lower ho6 (below_size (by repeat (first | (with_reducible first | exact HB.out | apply below_alloc | apply pw_below_drewN | apply below_drew1 | refine below_set ?_ GE152.out) | exact HB.out)))); have n2_ := Aside0.mk (blk_below (g := gb152) (o := .cells #[.int .i64 0, .int .i64 0, .int .i64 0, .slice none 0 0] 29 (0, 0)) (stK BK152.out) hb); have n3_ := Aside0.mk (below_step (by repeat (first | (with_reducible first | exact HB.out | apply below_alloc | apply pw_below_drewN | apply below_drew1 | refine below_set ?_ GE152.out) | exact HB.out)) hb); clear HO155; clear BK152; clear HB; have HO155 := n0_; have HO158 := n1_; have BK152 := n2_; have HB := n3_; clear n0_ n1_ n2_ n3_; clear hb ho6; obtain ⟨hcz7_0, hcz7_1, hcz7_2, hcz7_3⟩ := bc4 BK152.out; obtain ⟨hfz7_0, hfz7_1, hfz7_2, hfz7_3⟩ := bf4 BK152.out))
 refine bodyPost_ret (results_ct rfl _ _ gb152 29 #[.int .i64 1, .int .i64 2, .int .i64 5, .slice Ao4 y153.length co4] (0, 0) _ rfl (by (with_reducible repeat (first | refine blk_drewN ?_ _ | refine blk_drew ?_ | refine blk_alloc ?_ _)); refine blk_put (cs := #[.int .i64 1, .int .i64 2, .int .i64 5, .slice none 0 0]) ?_ 3 _ rfl; (with_reducible repeat (first | refine blk_drewN ?_ _ | refine blk_drew ?_ | refine blk_alloc ?_ _)); refine blk_put (cs := #[.int .i64 1, .int .i64 2, .int .i64 0, .slice none 0 0]) ?_ 2 _ rfl; (with_reducible repeat (first | refine blk_drewN ?_ _ | refine blk_drew ?_ | refine blk_alloc ?_ _)); refine blk_put (cs := #[.int .i64 1, .int .i64 0, .int .i64 0, .slice none 0 0]) ?_ 1 _ rfl; (with_reducible repeat (first | refine blk_drewN ?_ _ | refine blk_drew ?_ | refine blk_alloc ?_ _)); refine blk_put (cs := #[.int .i64 0, .int .i64 0, .int .i64 0, .slice none 0 0]) ?_ 0 _ rfl; (with_reducible repeat (first | refine blk_drewN ?_ _ | refine blk_drew ?_ | refine blk_alloc ?_ _)); exact BK152.out) Tryz.underlying29 rfl (by kernel_rfl)) rfl ?_
 exact ⟨_, _, by first | rfl | (simp [errW_none, errW_some] <;> rfl) | (simp [*, errW_none, errW_some] <;> rfl), by (with_reducible repeat (first|apply Kd.S_alloc | apply Kd.S_drewN | apply Kd.S_drew)); exact Kd.S_mono (Kd.S_far (p := ⟨gb152, 3, none⟩) (Kd.S_far (p := ⟨gb152, 2, none⟩) (Kd.S_far (p := ⟨gb152, 1, none⟩) (Kd.S_far (p := ⟨gb152, 0, none⟩) (Kd.S_types HO155.out BK152.out (by decide)) (fun _ hk => hk.2) (.int .i64 1)) (fun _ hk => hk.2) (.int .i64 2)) (fun _ hk => hk.2) (.int .i64 5)) (fun _ hk => hk.2) (.slice Ao4 y153.length co4)) (fun _ hk => hk.1.2), by (with_reducible repeat (first|apply Kd.R_alloc | apply Kd.R_drewN | apply Kd.R_drew)); exact Kd.R_mono (Kd.R_far (p := ⟨gb152, 3, none⟩) (Kd.R_far (p := ⟨gb152, 2, none⟩) (Kd.R_far (p := ⟨gb152, 1, none⟩) (Kd.R_far (p := ⟨gb152, 0, none⟩) (Kd.R_types HO158.out BK152.out (by decide)) (fun _ hk => hk.2) (.int .i64 1)) (fun _ hk => hk.2) (.int .i64 2)) (fun _ hk => hk.2) (.int .i64 5)) (fun _ hk => hk.2) (.slice Ao4 y153.length co4)) (fun _ hk => trivial), by repeat (first | (with_reducible first | exact HB.out | apply below_alloc | apply pw_below_drewN | apply below_drew1 | refine below_set ?_ GE152.out) | exact HB.out)⟩
end Go.Proofs.YtgiefblcckikeaaGreat.G
end

section
/- law04's begun returns true (by hand: the printed walk is long). -/
set_option maxRecDepth 100000
attribute [local irreducible] Go.wpStill
namespace Go.Proofs.YtgiefblcckikeaaGreat.M
open Go.RowKit Go.Proofs.YtgiefblcckikeaaGreatW.PrintWords Go.Proofs.YtgiefblcckikeaaGreatW.PrintLast Go.Proofs.YtgiefblcckikeaaGreatW.PrintMore Go.Proofs.YtgiefblcckikeaaGreat.G
abbrev bgT : List TxD := [(⟨1, 3, [], [], [], []⟩ : TxD)]
abbrev bgB : List Int := [2, 1, 2, 2, 2, 5, 2, 1, 2, 1, 2, 3, 0, 0, 0, 0]
theorem bg_entF : entF 1 2 5 bgT = (bgB, 0) := by decide +kernel
theorem bg_take : takeEn bgB = ((1, 2, 5, bgT), 0) := by kernel_rfl
theorem bg_same : ∃ k, G.trivetref04_SameEntry.f k 1 2 5 bgT 1 2 5 bgT = some true := by
 refine ⟨20, ?_⟩
 rw [sameEn_r 20 1 2 5 bgT 1 2 5 bgT (fun t ht => by rw [List.mem_singleton.1 ht]; decide) (by decide) (by decide) (fun t ht => by rw [List.mem_singleton.1 ht]; exact ⟨by decide, by decide, by decide, by decide⟩)]
 have : eqEn 1 2 5 bgT 1 2 5 bgT = true := by kernel_rfl
 rw [this]
set_option maxHeartbeats 1000000 in
theorem begun_is (w : World) : Calls Tryz.prog 9 #[] w fun e w' => e = .returned (.bool true) ∧ Below w.heap.size w w' := by
 go_enter Tryz.func9, Tryz.ntmps9
 go_wp2_with fail
 refine (G.trivetlaw04_simple.calls 1 2 5 bgT bgB w rfl).mono ?_
 rintro e w1 ⟨v3, v4, rfl, hs, hr, hb⟩
 obtain ⟨A, c, rfl, hc, hC⟩ := Kd.S_reads hs
 obtain ⟨B, d, rfl⟩ := Kd.R_slice hr
 obtain ⟨-, hd, hD⟩ := Kd.R_reads' hr
 obtain ⟨l, hl⟩ : ∃ l, bgT = l := ⟨_, rfl⟩
 obtain ⟨bs, hbs⟩ : ∃ bs, bgB = bs := ⟨_, rfl⟩
 have hEF := bg_entF; have hTK := bg_take; obtain ⟨K, hSM⟩ := bg_same
 have ho : okE 1 2 5 bgT = true := by kernel_rfl
 have hok : okB bgB = true := by decide
 have hbl : bgB.length < 140737488355328 := by decide
 rw [hl, hbs] at hEF hTK
 rw [hl] at hSM ho hc hC
 rw [hbs] at hok hbl hd hD
 rw [show (bgT).length = l.length by rw [hl], show (bgB).length = bs.length by rw [hbs]]
 have HC := Lib.hid hC; have HD := Lib.hid hD; have HB := Lib.hid hb; have HCC := Lib.hid (And.intro hc hd)
 have HEF := Lib.hid hEF; have HTK := Lib.hid hTK; have HSM := Lib.hid hSM; have HO := Lib.hid (And.intro ho (And.intro hok hbl))
 clear hs hr hb hC hD hc hd hl hbs hEF hTK hSM ho hok hbl
 go_wp2_with fail
 have hbx := heap_alloc_new w1 (.cells #[.int .i64 1, .int .i64 2, .int .i64 5, .slice A l.length c] 29)
 have hay := (Below.refl _ w1).alloc (Nat.le_refl _) (.cells #[.int .i64 1, .int .i64 2, .int .i64 5, .slice A l.length c] 29)
 have hz : (w1.alloc (.cells #[.int .i64 1, .int .i64 2, .int .i64 5, .slice A l.length c] 29)).heap.size = w1.heap.size + 1 := by simp
 obtain ⟨w2, hw2⟩ : ∃ w2, w1.alloc (.cells #[.int .i64 1, .int .i64 2, .int .i64 5, .slice A l.length c] 29) = w2 := ⟨_, rfl⟩
 rw [hw2] at hbx hay hz ⊢
 obtain ⟨g, hg⟩ : ∃ g, w1.heap.size = g := ⟨_, rfl⟩
 have HC2 := Lib.hid (Kd.C_below HC.out hay); have HD2 := Lib.hid (Kd.C_below HD.out hay); have HB2 := Lib.hid (HB.out.trans (hay.mono HB.out.size))
 rw [hg] at hbx hz ⊢
 have HX2 := Lib.hid (And.intro hbx (show g < w2.heap.size by omega))
 clear hw2 hbx hay hz hg HC HD HB
 have a0 : w2.cell? ⟨g, 0, none⟩ = some (.int .i64 1) := by simp [World.cell?, HX2.out.1]
 have a1 : w2.cell? ⟨g, 1, none⟩ = some (.int .i64 2) := by simp [World.cell?, HX2.out.1]
 have a2 : w2.cell? ⟨g, 2, none⟩ = some (.int .i64 5) := by simp [World.cell?, HX2.out.1]
 have a3 : w2.cell? ⟨g, 3, none⟩ = some (.slice A l.length c) := by simp [World.cell?, HX2.out.1]
 go_wp2_with fail
 refine (entry_is 1 2 5 A c l w2 HC2.out HO.out.1).mono ?_
 rw [HEF.out]
 rintro e w3 ⟨v, rfl, hv, hb⟩
 obtain ⟨V, cv, rfl⟩ := Kd.R_slice hv
 obtain ⟨-, hvl, hV⟩ := Kd.R_reads' hv
 have HV := Lib.hid (show Kd.C (Kd.int .u8) w3 V bs.length bs from hV); have HVL := Lib.hid (show bs.length ≤ cv from hvl)
 have HC3 := Lib.hid (Kd.C_below HC2.out hb); have HD3 := Lib.hid (Kd.C_below HD2.out hb); have HB3 := Lib.hid (HB2.out.trans (hb.mono HB2.out.size))
 have HX3 := Lib.hid (And.intro ((hb.block g HX2.out.2).trans HX2.out.1) (Nat.lt_of_lt_of_le HX2.out.2 hb.size))
 clear hv hvl hV hb a0 a1 a2 a3 HC2 HD2 HB2 HX2
 go_wp2_with fail
 refine (takeEn_is B d bs w3 HD3.out HCC.out.2 HO.out.2.1 HO.out.2.2).mono ?_
 rw [HTK.out]
 rintro e w4 ⟨v, rfl, hv, hb⟩
 obtain ⟨Y, cy, rfl, hyc, hY⟩ := Kd.S_reads hv
 have HY := Lib.hid (show Kd.C G.k26 w4 Y l.length l from hY); have HYC := Lib.hid (show l.length ≤ cy from hyc)
 have HC4 := Lib.hid (Kd.C_below HC3.out hb); have HD4 := Lib.hid (Kd.C_below HD3.out hb); have HV4 := Lib.hid (Kd.C_below HV.out hb); have HB4 := Lib.hid (HB3.out.trans (hb.mono HB3.out.size))
 have HX4 := Lib.hid (And.intro ((hb.block g HX3.out.2).trans HX3.out.1) (Nat.lt_of_lt_of_le HX3.out.2 hb.size))
 clear hv hyc hY hb HC3 HD3 HB3 HX3 HV
 go_wp2_with fail
 have hbx := heap_alloc_new w4 (.cells #[.int .i64 1, .int .i64 2, .int .i64 5, .slice Y l.length cy] 29)
 have hay := (Below.refl _ w4).alloc (Nat.le_refl _) (.cells #[.int .i64 1, .int .i64 2, .int .i64 5, .slice Y l.length cy] 29)
 obtain ⟨w5, hw5⟩ : ∃ w5, w4.alloc (.cells #[.int .i64 1, .int .i64 2, .int .i64 5, .slice Y l.length cy] 29) = w5 := ⟨_, rfl⟩
 rw [hw5] at hbx hay ⊢
 obtain ⟨g2, hg2⟩ : ∃ g2, w4.heap.size = g2 := ⟨_, rfl⟩
 have HC5 := Lib.hid (Kd.C_below HC4.out hay); have HD5 := Lib.hid (Kd.C_below HD4.out hay); have HV5 := Lib.hid (Kd.C_below HV4.out hay); have HY5 := Lib.hid (Kd.C_below HY.out hay); have HB5 := Lib.hid (HB4.out.trans (hay.mono HB4.out.size))
 have HX5 := Lib.hid ((hay.block g HX4.out.2).trans HX4.out.1)
 rw [hg2] at hbx ⊢
 have HG5 := Lib.hid hbx
 clear hw5 hbx hay hg2 HC4 HD4 HB4 HX4 HV4 HY
 have a0 : w5.cell? ⟨g, 0, none⟩ = some (.int .i64 1) := by simp [World.cell?, HX5.out]
 have a1 : w5.cell? ⟨g, 1, none⟩ = some (.int .i64 2) := by simp [World.cell?, HX5.out]
 have a2 : w5.cell? ⟨g, 2, none⟩ = some (.int .i64 5) := by simp [World.cell?, HX5.out]
 have a3 : w5.cell? ⟨g, 3, none⟩ = some (.slice A l.length c) := by simp [World.cell?, HX5.out]
 have b0 : w5.cell? ⟨g2, 0, none⟩ = some (.int .i64 1) := by simp [World.cell?, HG5.out]
 have b1 : w5.cell? ⟨g2, 1, none⟩ = some (.int .i64 2) := by simp [World.cell?, HG5.out]
 have b2 : w5.cell? ⟨g2, 2, none⟩ = some (.int .i64 5) := by simp [World.cell?, HG5.out]
 have b3 : w5.cell? ⟨g2, 3, none⟩ = some (.slice Y l.length cy) := by simp [World.cell?, HG5.out]
 go_wp2_with fail
 refine (G.bytes_Equal.calls V cv bs B d bs true w5 HV5.out HVL.out HD5.out HCC.out.2 (by unfold G.bytes_Equal.f; simp)).mono ?_
 rintro e w6 ⟨rfl, ⟨n, rfl⟩⟩
 go_wp2_with fail
 refine (G.trivetref04_SameEntry.calls K 1 2 5 A c l 1 2 5 Y cy l true _ (Kd.C_drewN HC5.out n) HCC.out.1 (Kd.C_drewN HY5.out n) HYC.out HSM.out).mono ?_
 rintro e w7 ⟨rfl, hb⟩
 have HB7 := Lib.hid (below_then (pw_below_drewN HB5.out n) hb)
 clear hb
 go_wp2_with fail
 go_ret
 exact ⟨rfl, HB7.out⟩
end Go.Proofs.YtgiefblcckikeaaGreat.M
namespace Go.Proofs.YtgiefblcckikeaaGreat.G
open Go.RowKit Go.Proofs.YtgiefblcckikeaaGreatW.PrintWords Go.Proofs.YtgiefblcckikeaaGreat.M
def trivetlaw04_begun.f : Option Bool := some true
theorem trivetlaw04_begun.calls (r : Bool) (w : World) (h : trivetlaw04_begun.f = some r) :
  Calls Tryz.prog 9 #[] w fun e w' => e = .returned (.bool r) ∧ Below w.heap.size w w' := by
 obtain rfl := Option.some.inj h
 exact begun_is w
end Go.Proofs.YtgiefblcckikeaaGreat.G
end

section
/- Each is the same as itself. -/
namespace Go.Proofs.YtgiefblcckikeaaGreat.M
open Go.RowKit Go.Proofs.YtgiefblcckikeaaGreatW.PrintWords Go.Proofs.YtgiefblcckikeaaGreatW.PrintLast Go.Proofs.YtgiefblcckikeaaGreatW.PrintMore Go.Proofs.YtgiefblcckikeaaGreat.G
theorem eqTs_refl : ∀ l : List TxD, eqTs l l = true
 | [] => rfl
 | t :: l => by unfold eqTs; rw [show eqTx t t = true by unfold eqTx; simp [eqS_refl], eqTs_refl l]; rfl
theorem eqEn_refl (k f n : Int) (l : List TxD) : eqEn k f n l k f n l = true := by unfold eqEn; simp [eqTs_refl]
theorem eqTrs_refl : ∀ l : List TrD, eqTrs l l = true
 | [] => rfl
 | t :: l => by unfold eqTrs; rw [show eqTr t t = true by unfold eqTr; simp [eqEn_refl], eqTrs_refl l]; rfl
theorem eqMs_refl (m : MsgD) : eqMs m m = true := by unfold eqMs eqPt; simp [eqTrs_refl, eqEn_refl, eqS_refl]
end Go.Proofs.YtgiefblcckikeaaGreat.M
end

section
/- RecordReads returns true (printed by genunm04.py). -/
set_option maxRecDepth 100000
attribute [local irreducible] Go.wpStill
namespace Go.Proofs.YtgiefblcckikeaaGreat.M
open Go.RowKit Go.Proofs.YtgiefblcckikeaaGreatW.PrintWords Go.Proofs.YtgiefblcckikeaaGreatW.PrintLast Go.Proofs.YtgiefblcckikeaaGreatW.PrintMore Go.Proofs.YtgiefblcckikeaaGreat.G
set_option maxHeartbeats 4000000 in
theorem reads_walk (w : World) (A : Option Addr) (c : Nat) (l : List Int) (hr : Kd.C (Kd.int .u8) w A l.length l) (hc : l.length ≤ c) (hb : okB l = true) (hl : l.length < 140737488355328) :
  Calls Tryz.prog 5 #[.slice A l.length c] w fun e w' => e = .returned (.bool true) ∧ Below w.heap.size w w' := by
 have HB0 := Lib.hid (Below.refl w.heap.size w)
 have C0_0 := Lib.hid hr
 have HC := Lib.hid hc; have HOB := Lib.hid hb; have HL := Lib.hid hl
 obtain ⟨⟨k, f, n, t⟩, hy⟩ : ∃ y, (takeEn l).1 = y := ⟨_, rfl⟩
 obtain ⟨e1, he1⟩ : ∃ e1, (takeEn l).2 = e1 := ⟨_, rfl⟩
 obtain ⟨m, hm⟩ : ∃ m, (unm l).1 = m := ⟨_, rfl⟩
 obtain ⟨e2, he2⟩ : ∃ e2, (unm l).2 = e2 := ⟨_, rfl⟩
 have HE := Lib.hid (And.intro hy he1); have HM := Lib.hid (And.intro hm he2)
 clear hr hc hb hl hy he1 hm he2
 go_enter Tryz.func5, Tryz.ntmps5
 go_wp2_with fail
 have h4 := takeEn_is A c l w C0_0.out HC.out HOB.out HL.out
 rw [HE.out.1, HE.out.2] at h4
 refine h4.mono ?_
 rintro e u1 ⟨v, rfl, hv, hb⟩
 have hv : Kd.R G.k26 26 u1 w.heap.size (fun _ => True) v t := Kd.S_R hv
 obtain ⟨E1, ce1, rfl⟩ := Kd.R_slice hv
 go_upto_region 2 with fail
 have ha := (Below.refl _ u1).alloc (Nat.le_refl _) (.cells #[.int .i64 k, .int .i64 f, .int .i64 n, .slice E1 t.length ce1] 29)
 have hx := heap_alloc_new u1 (.cells #[.int .i64 k, .int .i64 f, .int .i64 n, .slice E1 t.length ce1] 29)
 obtain ⟨w1, hw⟩ : ∃ W, u1.alloc (.cells #[.int .i64 k, .int .i64 f, .int .i64 n, .slice E1 t.length ce1] 29) = W := ⟨_, rfl⟩
 rw [hw] at ha hx ⊢
 obtain ⟨g1, hg⟩ : ∃ g, u1.heap.size = g := ⟨_, rfl⟩
 have S1 := Lib.hid (show Below w.heap.size w w1 from hb.trans (ha.mono hb.size))
 have E1_1 := Lib.hid (show Kd.C G.k26 w1 E1 t.length t from Kd.C_below (Kd.R_reads' hv).2.2 ha)
 have N1 := Lib.hid (Kd.R_reads' hv).2.1
 rw [hg] at hx ⊢
 have B1_1 := Lib.hid hx
 clear h4 hb ha hx hw hg hv
 have C0_1 := Lib.hid (Kd.C_below C0_0.out S1.out)
 clear C0_0
 have HB1 := Lib.hid (HB0.out.trans (S1.out.mono HB0.out.size))
 clear HB0 S1
 go_wp2_with fail
 have h4 := refTakeEn_is A c l w1 C0_1.out HC.out HOB.out HL.out
 rw [HE.out.1, HE.out.2] at h4
 refine h4.mono ?_
 rintro e u2 ⟨v, rfl, hv, hb⟩
 have hv : Kd.R G.k26 26 u2 w1.heap.size (fun _ => True) v t := hv
 obtain ⟨E2, ce2, rfl⟩ := Kd.R_slice hv
 go_upto_region 3 with fail
 have ha := (Below.refl _ u2).alloc (Nat.le_refl _) (.cells #[.int .i64 k, .int .i64 f, .int .i64 n, .slice E2 t.length ce2] 29)
 have hx := heap_alloc_new u2 (.cells #[.int .i64 k, .int .i64 f, .int .i64 n, .slice E2 t.length ce2] 29)
 obtain ⟨w2, hw⟩ : ∃ W, u2.alloc (.cells #[.int .i64 k, .int .i64 f, .int .i64 n, .slice E2 t.length ce2] 29) = W := ⟨_, rfl⟩
 rw [hw] at ha hx ⊢
 obtain ⟨g2, hg⟩ : ∃ g, u2.heap.size = g := ⟨_, rfl⟩
 have S2 := Lib.hid (show Below w1.heap.size w1 w2 from hb.trans (ha.mono hb.size))
 have E2_2 := Lib.hid (show Kd.C G.k26 w2 E2 t.length t from Kd.C_below (Kd.R_reads' hv).2.2 ha)
 have N2 := Lib.hid (Kd.R_reads' hv).2.1
 rw [hg] at hx ⊢
 have B2_2 := Lib.hid hx
 clear h4 hb ha hx hw hg hv
 have C0_2 := Lib.hid (Kd.C_below C0_1.out S2.out)
 have B1_2 := Lib.hid ((S2.out.block _ (Array.getElem?_eq_some_iff.1 B1_1.out).1).trans B1_1.out)
 have E1_2 := Lib.hid (Kd.C_below E1_1.out S2.out)
 clear C0_1 B1_1 E1_1
 have HB2 := Lib.hid (HB1.out.trans (S2.out.mono HB1.out.size))
 clear HB1 S2
 go_wp2_with fail
 have h4 := unm_is A c l w2 C0_2.out HC.out HOB.out HL.out
 rw [HM.out.1, HM.out.2] at h4
 refine h4.mono ?_
 rintro e u3 ⟨v8, v12, v16, rfl, r8, r12, r16, hb⟩
 obtain ⟨A8, c8, rfl⟩ := Kd.R_slice r8
 obtain ⟨A12, c12, rfl⟩ := Kd.R_slice r12
 obtain ⟨A16, c16, rfl⟩ := Kd.R_slice r16
 go_upto_region 4 with fail
 have ha := (Below.refl _ u3).alloc (Nat.le_refl _) (.cells #[.int .i64 m.f0, .int .i64 m.f1, .int .i64 m.f2, .int .i64 m.f3, .int .i64 m.f4, .int .i64 m.f5, .int .i64 m.f6, .bool m.f7, .slice A8 m.f8.length c8, .int .i64 m.f9.f0, .int .i64 m.f9.f1, .int .i64 m.f9.f2, .slice A12 m.f9.f3.length c12, .int .i64 m.f10.f0, .int .i64 m.f10.f1, .int .i64 m.f10.f2, .slice A16 m.f10.f3.length c16] 34)
 have hx := heap_alloc_new u3 (.cells #[.int .i64 m.f0, .int .i64 m.f1, .int .i64 m.f2, .int .i64 m.f3, .int .i64 m.f4, .int .i64 m.f5, .int .i64 m.f6, .bool m.f7, .slice A8 m.f8.length c8, .int .i64 m.f9.f0, .int .i64 m.f9.f1, .int .i64 m.f9.f2, .slice A12 m.f9.f3.length c12, .int .i64 m.f10.f0, .int .i64 m.f10.f1, .int .i64 m.f10.f2, .slice A16 m.f10.f3.length c16] 34)
 obtain ⟨w3, hw⟩ : ∃ W, u3.alloc (.cells #[.int .i64 m.f0, .int .i64 m.f1, .int .i64 m.f2, .int .i64 m.f3, .int .i64 m.f4, .int .i64 m.f5, .int .i64 m.f6, .bool m.f7, .slice A8 m.f8.length c8, .int .i64 m.f9.f0, .int .i64 m.f9.f1, .int .i64 m.f9.f2, .slice A12 m.f9.f3.length c12, .int .i64 m.f10.f0, .int .i64 m.f10.f1, .int .i64 m.f10.f2, .slice A16 m.f10.f3.length c16] 34) = W := ⟨_, rfl⟩
 rw [hw] at ha hx ⊢
 obtain ⟨g3, hg⟩ : ∃ g, u3.heap.size = g := ⟨_, rfl⟩
 have S3 := Lib.hid (show Below w2.heap.size w2 w3 from hb.trans (ha.mono hb.size))
 have M3_3 := Lib.hid (show MsgC w3 m A8 c8 A12 c12 A16 c16 from MsgC.below ⟨(Kd.R_reads' r8).2.1, (Kd.R_reads' r8).2.2, (Kd.R_reads' r12).2.1, (Kd.R_reads' r12).2.2, (Kd.R_reads' r16).2.1, (Kd.R_reads' r16).2.2⟩ ha)
 rw [hg] at hx ⊢
 have B3_3 := Lib.hid hx
 clear h4 hb ha hx hw hg r8 r12 r16
 have C0_3 := Lib.hid (Kd.C_below C0_2.out S3.out)
 have B1_3 := Lib.hid ((S3.out.block _ (Array.getElem?_eq_some_iff.1 B1_2.out).1).trans B1_2.out)
 have E1_3 := Lib.hid (Kd.C_below E1_2.out S3.out)
 have B2_3 := Lib.hid ((S3.out.block _ (Array.getElem?_eq_some_iff.1 B2_2.out).1).trans B2_2.out)
 have E2_3 := Lib.hid (Kd.C_below E2_2.out S3.out)
 clear C0_2 B1_2 E1_2 B2_2 E2_2
 have HB3 := Lib.hid (HB2.out.trans (S3.out.mono HB2.out.size))
 clear HB2 S3
 go_wp2_with fail
 have h4 := refUnm_is A c l w3 C0_3.out HC.out HOB.out HL.out
 rw [HM.out.1, HM.out.2] at h4
 refine h4.mono ?_
 rintro e u4 ⟨v8, v12, v16, rfl, r8, r12, r16, hb⟩
 obtain ⟨B8, d8, rfl⟩ := Kd.R_slice r8
 obtain ⟨B12, d12, rfl⟩ := Kd.R_slice r12
 obtain ⟨B16, d16, rfl⟩ := Kd.R_slice r16
 go_upto_region 5 with fail
 have ha := (Below.refl _ u4).alloc (Nat.le_refl _) (.cells #[.int .i64 m.f0, .int .i64 m.f1, .int .i64 m.f2, .int .i64 m.f3, .int .i64 m.f4, .int .i64 m.f5, .int .i64 m.f6, .bool m.f7, .slice B8 m.f8.length d8, .int .i64 m.f9.f0, .int .i64 m.f9.f1, .int .i64 m.f9.f2, .slice B12 m.f9.f3.length d12, .int .i64 m.f10.f0, .int .i64 m.f10.f1, .int .i64 m.f10.f2, .slice B16 m.f10.f3.length d16] 34)
 have hx := heap_alloc_new u4 (.cells #[.int .i64 m.f0, .int .i64 m.f1, .int .i64 m.f2, .int .i64 m.f3, .int .i64 m.f4, .int .i64 m.f5, .int .i64 m.f6, .bool m.f7, .slice B8 m.f8.length d8, .int .i64 m.f9.f0, .int .i64 m.f9.f1, .int .i64 m.f9.f2, .slice B12 m.f9.f3.length d12, .int .i64 m.f10.f0, .int .i64 m.f10.f1, .int .i64 m.f10.f2, .slice B16 m.f10.f3.length d16] 34)
 obtain ⟨w4, hw⟩ : ∃ W, u4.alloc (.cells #[.int .i64 m.f0, .int .i64 m.f1, .int .i64 m.f2, .int .i64 m.f3, .int .i64 m.f4, .int .i64 m.f5, .int .i64 m.f6, .bool m.f7, .slice B8 m.f8.length d8, .int .i64 m.f9.f0, .int .i64 m.f9.f1, .int .i64 m.f9.f2, .slice B12 m.f9.f3.length d12, .int .i64 m.f10.f0, .int .i64 m.f10.f1, .int .i64 m.f10.f2, .slice B16 m.f10.f3.length d16] 34) = W := ⟨_, rfl⟩
 rw [hw] at ha hx ⊢
 obtain ⟨g4, hg⟩ : ∃ g, u4.heap.size = g := ⟨_, rfl⟩
 have S4 := Lib.hid (show Below w3.heap.size w3 w4 from hb.trans (ha.mono hb.size))
 have M4_4 := Lib.hid (show MsgC w4 m B8 d8 B12 d12 B16 d16 from MsgC.below ⟨(Kd.R_reads' r8).2.1, (Kd.R_reads' r8).2.2, (Kd.R_reads' r12).2.1, (Kd.R_reads' r12).2.2, (Kd.R_reads' r16).2.1, (Kd.R_reads' r16).2.2⟩ ha)
 rw [hg] at hx ⊢
 have B4_4 := Lib.hid hx
 clear h4 hb ha hx hw hg r8 r12 r16
 have C0_4 := Lib.hid (Kd.C_below C0_3.out S4.out)
 have B1_4 := Lib.hid ((S4.out.block _ (Array.getElem?_eq_some_iff.1 B1_3.out).1).trans B1_3.out)
 have E1_4 := Lib.hid (Kd.C_below E1_3.out S4.out)
 have B2_4 := Lib.hid ((S4.out.block _ (Array.getElem?_eq_some_iff.1 B2_3.out).1).trans B2_3.out)
 have E2_4 := Lib.hid (Kd.C_below E2_3.out S4.out)
 have B3_4 := Lib.hid ((S4.out.block _ (Array.getElem?_eq_some_iff.1 B3_3.out).1).trans B3_3.out)
 have M3_4 := Lib.hid (M3_3.out.below S4.out)
 clear C0_3 B1_3 E1_3 B2_3 E2_3 B3_3 M3_3
 have HB4 := Lib.hid (HB3.out.trans (S4.out.mono HB3.out.size))
 clear HB3 S4
 have q1 : (e1 == e1) = true := by simp
 have q2 : (e2 == e2) = true := by simp
 refine wp_region_list ?_
 refine wpList_cut 17 ?_
 simp only [List.take_succ_cons, List.take_zero, List.drop_succ_cons, List.drop_zero]
 go_wp2_with fail
 refine (begun_is w4).mono ?_
 rintro e w5 ⟨rfl, hb⟩
 have S5 := Lib.hid hb
 clear hb
 have C0_5 := Lib.hid (Kd.C_below C0_4.out S5.out)
 have B1_5 := Lib.hid ((S5.out.block _ (Array.getElem?_eq_some_iff.1 B1_4.out).1).trans B1_4.out)
 have E1_5 := Lib.hid (Kd.C_below E1_4.out S5.out)
 have B2_5 := Lib.hid ((S5.out.block _ (Array.getElem?_eq_some_iff.1 B2_4.out).1).trans B2_4.out)
 have E2_5 := Lib.hid (Kd.C_below E2_4.out S5.out)
 have B3_5 := Lib.hid ((S5.out.block _ (Array.getElem?_eq_some_iff.1 B3_4.out).1).trans B3_4.out)
 have M3_5 := Lib.hid (M3_4.out.below S5.out)
 have B4_5 := Lib.hid ((S5.out.block _ (Array.getElem?_eq_some_iff.1 B4_4.out).1).trans B4_4.out)
 have M4_5 := Lib.hid (M4_4.out.below S5.out)
 clear C0_4 B1_4 E1_4 B2_4 E2_4 B3_4 M3_4 B4_4 M4_4
 have HB5 := Lib.hid (HB4.out.trans (S5.out.mono HB4.out.size))
 clear HB4 S5
 obtain ⟨x10, x11, x12, x13⟩ := bc4 B1_5.out
 obtain ⟨x20, x21, x22, x23⟩ := bc4 B2_5.out
 go_wp2_with fail
 have h4 := refSameEn_is k f n E1 ce1 t k f n E2 ce2 t w5 E1_5.out N1.out E2_5.out N2.out
 rw [eqEn_refl] at h4
 refine h4.mono ?_
 rintro e w6 ⟨rfl, hb⟩
 clear h4 x10 x11 x12 x13 x20 x21 x22 x23
 have S6 := Lib.hid hb
 clear hb
 have C0_6 := Lib.hid (Kd.C_below C0_5.out S6.out)
 have B1_6 := Lib.hid ((S6.out.block _ (Array.getElem?_eq_some_iff.1 B1_5.out).1).trans B1_5.out)
 have E1_6 := Lib.hid (Kd.C_below E1_5.out S6.out)
 have B2_6 := Lib.hid ((S6.out.block _ (Array.getElem?_eq_some_iff.1 B2_5.out).1).trans B2_5.out)
 have E2_6 := Lib.hid (Kd.C_below E2_5.out S6.out)
 have B3_6 := Lib.hid ((S6.out.block _ (Array.getElem?_eq_some_iff.1 B3_5.out).1).trans B3_5.out)
 have M3_6 := Lib.hid (M3_5.out.below S6.out)
 have B4_6 := Lib.hid ((S6.out.block _ (Array.getElem?_eq_some_iff.1 B4_5.out).1).trans B4_5.out)
 have M4_6 := Lib.hid (M4_5.out.below S6.out)
 clear C0_5 B1_5 E1_5 B2_5 E2_5 B3_5 M3_5 B4_5 M4_5
 have HB6 := Lib.hid (HB5.out.trans (S6.out.mono HB5.out.size))
 clear HB5 S6
 go_wp2_with fail
 refine Halt.mk ?_
 refine gate_guard (by rfl) ?_
 dsimp only
 refine wpList_load_row rfl 34 (.tmp 7) rfl g3 rfl 34 #[.int .i64 m.f0, .int .i64 m.f1, .int .i64 m.f2, .int .i64 m.f3, .int .i64 m.f4, .int .i64 m.f5, .int .i64 m.f6, .bool m.f7, .slice A8 m.f8.length c8, .int .i64 m.f9.f0, .int .i64 m.f9.f1, .int .i64 m.f9.f2, .slice A12 m.f9.f3.length c12, .int .i64 m.f10.f0, .int .i64 m.f10.f1, .int .i64 m.f10.f2, .slice A16 m.f10.f3.length c16] (0, 0) _ B3_6.out Tryz.underlying34 rfl (by kernel_rfl) ?_
 refine gate_guard (by rfl) ?_
 dsimp only
 refine wpList_load_row rfl 34 (.tmp 9) rfl g4 rfl 34 #[.int .i64 m.f0, .int .i64 m.f1, .int .i64 m.f2, .int .i64 m.f3, .int .i64 m.f4, .int .i64 m.f5, .int .i64 m.f6, .bool m.f7, .slice B8 m.f8.length d8, .int .i64 m.f9.f0, .int .i64 m.f9.f1, .int .i64 m.f9.f2, .slice B12 m.f9.f3.length d12, .int .i64 m.f10.f0, .int .i64 m.f10.f1, .int .i64 m.f10.f2, .slice B16 m.f10.f3.length d16] (0, 0) _ B4_6.out Tryz.underlying34 rfl (by kernel_rfl) ?_
 go_wp2_with fail
 have h4 := refSameMs_is m m M3_6.out M4_6.out
 rw [eqMs_refl] at h4
 refine h4.mono ?_
 rintro e w7 ⟨rfl, hb⟩
 have HB7 := Lib.hid (HB6.out.trans (hb.mono HB6.out.size))
 clear h4 hb
 go_wp2_with fail
 go_ret
 exact ⟨rfl, HB7.out⟩
end Go.Proofs.YtgiefblcckikeaaGreat.M
end
