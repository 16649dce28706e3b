/- RecordBackSaid: contracts of the functions that the law goes through, put together in build order (part 6 of 7). -/
import Derived.Test.YtgiefblcckikeaaGreatPart4
import Derived.Laws.Tables
import Derived.Deep.RegionHeld3
set_option linter.unusedVariables false
set_option linter.unusedSimpArgs false
set_option maxRecDepth 100000
section
/- The eye: a message, kinds 3, 5 (printed by geneym04.py). -/
attribute [local irreducible] Go.wpStill
namespace Go.Proofs.YtgiefblcckikeaaGreat.M
open Go.RowKit Go.Proofs.YtgiefblcckikeaaGreatW.PrintWords Go.Proofs.YtgiefblcckikeaaGreatW.PrintLast Go.Proofs.YtgiefblcckikeaaGreatW.PrintMore Go.Proofs.YtgiefblcckikeaaGreat.G
set_option maxHeartbeats 4000000 in
theorem eMsg3 {w0 w : World} {x : Nat} {s : EyeS} (hI : IsEye w0 w x s) (hB : Below w0.heap.size w0 w) (hok : okS s) (hk : (eNum s).1 = 3) (he : (eNum s).2.e = 0) :
  Calls Tryz.prog 60 #[.pointer (some ⟨x, 0, none⟩)] w fun e w' => MsP (fun W s => IsEye w0 W x s) w0 w x (eMsg s).1 (eMsg s).2 e w' := by
 have HT1 := Lib.hid (Fo.start (I := fun W s => IsEye w0 W x s) (T := 34) (zs := #[.int .i64 0, .int .i64 0, .int .i64 0, .int .i64 0, .int .i64 0, .int .i64 0, .int .i64 0, .bool false, .slice none 0 0, .int .i64 0, .int .i64 0, .int .i64 0, .slice none 0 0, .int .i64 0, .int .i64 0, .int .i64 0, .slice none 0 0]) hI hB hI.lt hI.ge (fun _ _ _ e h => h.at e))
 obtain ⟨s1, hs1⟩ : ∃ s1, (eNum s).2 = s1 := ⟨_, rfl⟩
 have HN := Lib.hid (And.intro hk hs1)
 have HO0 := Lib.hid hok
 have ho1 := okS_num hok
 rw [hs1] at ho1 he
 have HF0 := Lib.hid (show eMsg s = mBody eSmall eEntry (eList eTr) 3 s1 by
  have hm : eMk s = s1 := by unfold eMk; rw [hk, hs1]; exact eWrong_false _
  unfold eMsg
  rw [hm, if_neg (fun q => q he), hk])
 clear hI hB hok hk hs1
 obtain ⟨v1, hv1⟩ : ∃ v, (eSmall s1).1 = v := ⟨_, rfl⟩
 obtain ⟨s2, hs2⟩ : ∃ t, (eSmall s1).2 = t := ⟨_, rfl⟩
 have ho2 := okS_small ho1
 rw [hs2] at ho2
 have HO1 := Lib.hid ho1; have HE1 := Lib.hid (And.intro hv1 hs2)
 obtain ⟨v2, hv2⟩ : ∃ v, (eSmall s2).1 = v := ⟨_, rfl⟩
 obtain ⟨s3, hs3⟩ : ∃ t, (eSmall s2).2 = t := ⟨_, rfl⟩
 have ho3 := okS_small ho2
 rw [hs3] at ho3
 have HO2 := Lib.hid ho2; have HE2 := Lib.hid (And.intro hv2 hs3)
 obtain ⟨v3, hv3⟩ : ∃ v, (eNum s3).1 = v := ⟨_, rfl⟩
 obtain ⟨s4, hs4⟩ : ∃ t, (eNum s3).2 = t := ⟨_, rfl⟩
 have ho4 := okS_num ho3
 rw [hs4] at ho4
 have HO3 := Lib.hid ho3; have HE3 := Lib.hid (And.intro hv3 hs4)
 obtain ⟨v4, hv4⟩ : ∃ v, (eNum s4).1 = v := ⟨_, rfl⟩
 obtain ⟨s5, hs5⟩ : ∃ t, (eNum s4).2 = t := ⟨_, rfl⟩
 have ho5 := okS_num ho4
 rw [hs5] at ho5
 have HO4 := Lib.hid ho4; have HE4 := Lib.hid (And.intro hv4 hs5)
 obtain ⟨v5, hv5⟩ : ∃ v, (eNum s5).1 = v := ⟨_, rfl⟩
 obtain ⟨s6, hs6⟩ : ∃ t, (eNum s5).2 = t := ⟨_, rfl⟩
 have ho6 := okS_num ho5
 rw [hs6] at ho6
 have HO5 := Lib.hid ho5; have HE5 := Lib.hid (And.intro hv5 hs6)
 obtain ⟨v6, hv6⟩ : ∃ v, (eNum s6).1 = v := ⟨_, rfl⟩
 obtain ⟨s7, hs7⟩ : ∃ t, (eNum s6).2 = t := ⟨_, rfl⟩
 have ho7 := okS_num ho6
 rw [hs7] at ho7
 have HO6 := Lib.hid ho6; have HE6 := Lib.hid (And.intro hv6 hs7)
 obtain ⟨v7, hv7⟩ : ∃ v, ((eList eTr) s7).1 = v := ⟨_, rfl⟩
 obtain ⟨s8, hs8⟩ : ∃ t, ((eList eTr) s7).2 = t := ⟨_, rfl⟩
 have ho8 := okS_trs ho7
 rw [hs8] at ho8
 have HO7 := Lib.hid ho7; have HE7 := Lib.hid (And.intro hv7 hs8)
 have HF := Lib.hid (show eMsg s = (⟨3, v1, v2, v3, v4, v5, v6, false, v7, zE, zP⟩, s8) by
  rw [HF0.out]
  unfold mBody
  rw [if_neg (by decide)]; rw [if_neg (by decide)]; rw [if_pos rfl]
  simp only [FM, PR, enOf, hv1, hs2, hv2, hs3, hv3, hs4, hv4, hs5, hv5, hs6, hv6, hs7, hv7, hs8])
 clear HF0 hv1 hs2 ho1 hv2 hs3 ho2 hv3 hs4 ho3 hv4 hs5 ho4 hv5 hs6 ho5 hv6 hs7 ho6 hv7 hs8 ho7 ho8
 have HQ := Lib.hid (show (s1.e != 0) = false by rw [he]; rfl)
 clear he
 go_enter Tryz.func60, Tryz.ntmps60
 go_upto_region 1 with fail
 obtain ⟨w1, hw1⟩ : ∃ w1, w.alloc (.cells #[.int .i64 0, .int .i64 0, .int .i64 0, .int .i64 0, .int .i64 0, .int .i64 0, .int .i64 0, .bool false, .slice none 0 0, .int .i64 0, .int .i64 0, .int .i64 0, .slice none 0 0, .int .i64 0, .int .i64 0, .int .i64 0, .slice none 0 0] 34) = w1 := ⟨_, rfl⟩
 rw [hw1] at HT1 ⊢
 clear hw1
 go_wp2_with fail
 have h4 := eNum_is HT1.out.i HT1.out.d HO0.out
 rw [HN.out.1, HN.out.2] at h4
 refine h4.mono ?_
 rintro e w2 ⟨rfl, h1, h2, h3⟩
 have HT2 := Lib.hid (HT1.out.call h1 h2 h3)
 clear h1 h2 h3 h4 HT1 HN
 go_wp2_with fail
 have h4 := eWrong_is HT2.out.i HT2.out.d false
 rw [eWrong_false] at h4
 refine h4.mono ?_
 rintro e w3 ⟨rfl, h1, h2, h3⟩
 have HT3 := Lib.hid (HT2.out.call h1 h2 h3)
 clear h1 h2 h3 h4 HT2
 have c1 : w3.cell? ⟨x, 1, none⟩ = some (.int .i64 s1.e) := by
  obtain ⟨A, c, g1, _⟩ := HT3.out.i
  simp [World.cell?, g1]
 have hq := HQ.out
 go_wp2_with fail
 clear c1 hq
 have h4 := eSmall_is HT3.out.i HT3.out.d HO1.out
 rw [HE1.out.1, HE1.out.2] at h4
 refine h4.mono ?_
 rintro e w4 ⟨rfl, h1, h2, h3⟩
 have HT4 := Lib.hid (HT3.out.call h1 h2 h3)
 clear h1 h2 h3 h4 HT3
 go_wp2_with fail
 have h4 := eSmall_is HT4.out.i HT4.out.d HO2.out
 rw [HE2.out.1, HE2.out.2] at h4
 refine h4.mono ?_
 rintro e w5 ⟨rfl, h1, h2, h3⟩
 have HT5 := Lib.hid (HT4.out.call h1 h2 h3)
 clear h1 h2 h3 h4 HT4
 go_upto_region 6 with fail
 have HT6 := Lib.hid (HT5.out.lay #[.int .i64 3, .int .i64 v1, .int .i64 v2, .int .i64 0, .int .i64 0, .int .i64 0, .int .i64 0, .bool false, .slice none 0 0, .int .i64 0, .int .i64 0, .int .i64 0, .slice none 0 0, .int .i64 0, .int .i64 0, .int .i64 0, .slice none 0 0])
 obtain ⟨g, hg⟩ : ∃ g, w5.heap.size = g := ⟨_, rfl⟩
 obtain ⟨w6, hw6⟩ : ∃ w6, w5.alloc (.cells #[.int .i64 3, .int .i64 v1, .int .i64 v2, .int .i64 0, .int .i64 0, .int .i64 0, .int .i64 0, .bool false, .slice none 0 0, .int .i64 0, .int .i64 0, .int .i64 0, .slice none 0 0, .int .i64 0, .int .i64 0, .int .i64 0, .slice none 0 0] 34) = w6 := ⟨_, rfl⟩
 rw [hg, hw6] at HT6
 rw [hw6, hg]
 clear hg hw6 HT5
 have b0 : w6.cell? ⟨g, 0, none⟩ = some (.int .i64 3) := (blk_cell HT6.out.y 0).trans rfl
 go_wp2_with fail
 have h4 := eNum_is HT6.out.i HT6.out.d HO3.out
 rw [HE3.out.1, HE3.out.2] at h4
 refine h4.mono ?_
 rintro e w7 ⟨rfl, h1, h2, h3⟩
 have HT7 := Lib.hid (HT6.out.call h1 h2 h3)
 clear h1 h2 h3 h4 HT6
 clear b0
 have d3 : w7.cell? ⟨g, 3, none⟩ = some (.int .i64 0) := (blk_cell HT7.out.y 3).trans rfl
 have z3 : w7.frozen? ⟨g, 3, none⟩ = false := blk_frozen HT7.out.y 3
 have d0 : w7.cell? ⟨g, 0, none⟩ = some (.int .i64 3) := (blk_cell HT7.out.y 0).trans rfl
 have z0 : w7.frozen? ⟨g, 0, none⟩ = false := blk_frozen HT7.out.y 0
 go_wp2_with fail
 have HT8 := Lib.hid (HT7.out.put 3 (.int .i64 v3))
 obtain ⟨w8, hw⟩ : ∃ W, (w7.setCell ⟨g, 3, none⟩ (.int .i64 v3)) = W := ⟨_, rfl⟩
 rw [hw] at HT8 ⊢
 clear hw HT7 d3 z3 d0 z0
 have h4 := eNum_is HT8.out.i HT8.out.d HO4.out
 rw [HE4.out.1, HE4.out.2] at h4
 refine h4.mono ?_
 rintro e w9 ⟨rfl, h1, h2, h3⟩
 have HT9 := Lib.hid (HT8.out.call h1 h2 h3)
 clear h1 h2 h3 h4 HT8
 have d4 : w9.cell? ⟨g, 4, none⟩ = some (.int .i64 0) := (blk_cell HT9.out.y 4).trans rfl
 have z4 : w9.frozen? ⟨g, 4, none⟩ = false := blk_frozen HT9.out.y 4
 have d0 : w9.cell? ⟨g, 0, none⟩ = some (.int .i64 3) := (blk_cell HT9.out.y 0).trans rfl
 have z0 : w9.frozen? ⟨g, 0, none⟩ = false := blk_frozen HT9.out.y 0
 go_wp2_with fail
 have HT10 := Lib.hid (HT9.out.put 4 (.int .i64 v4))
 obtain ⟨w10, hw⟩ : ∃ W, (w9.setCell ⟨g, 4, none⟩ (.int .i64 v4)) = W := ⟨_, rfl⟩
 rw [hw] at HT10 ⊢
 clear hw HT9 d4 z4 d0 z0
 have h4 := eNum_is HT10.out.i HT10.out.d HO5.out
 rw [HE5.out.1, HE5.out.2] at h4
 refine h4.mono ?_
 rintro e w11 ⟨rfl, h1, h2, h3⟩
 have HT11 := Lib.hid (HT10.out.call h1 h2 h3)
 clear h1 h2 h3 h4 HT10
 have d5 : w11.cell? ⟨g, 5, none⟩ = some (.int .i64 0) := (blk_cell HT11.out.y 5).trans rfl
 have z5 : w11.frozen? ⟨g, 5, none⟩ = false := blk_frozen HT11.out.y 5
 have d0 : w11.cell? ⟨g, 0, none⟩ = some (.int .i64 3) := (blk_cell HT11.out.y 0).trans rfl
 have z0 : w11.frozen? ⟨g, 0, none⟩ = false := blk_frozen HT11.out.y 0
 go_wp2_with fail
 have HT12 := Lib.hid (HT11.out.put 5 (.int .i64 v5))
 obtain ⟨w12, hw⟩ : ∃ W, (w11.setCell ⟨g, 5, none⟩ (.int .i64 v5)) = W := ⟨_, rfl⟩
 rw [hw] at HT12 ⊢
 clear hw HT11 d5 z5 d0 z0
 have h4 := eNum_is HT12.out.i HT12.out.d HO6.out
 rw [HE6.out.1, HE6.out.2] at h4
 refine h4.mono ?_
 rintro e w13 ⟨rfl, h1, h2, h3⟩
 have HT13 := Lib.hid (HT12.out.call h1 h2 h3)
 clear h1 h2 h3 h4 HT12
 have d6 : w13.cell? ⟨g, 6, none⟩ = some (.int .i64 0) := (blk_cell HT13.out.y 6).trans rfl
 have z6 : w13.frozen? ⟨g, 6, none⟩ = false := blk_frozen HT13.out.y 6
 have d0 : w13.cell? ⟨g, 0, none⟩ = some (.int .i64 3) := (blk_cell HT13.out.y 0).trans rfl
 have z0 : w13.frozen? ⟨g, 0, none⟩ = false := blk_frozen HT13.out.y 0
 go_wp2_with fail
 have HT14 := Lib.hid (HT13.out.put 6 (.int .i64 v6))
 obtain ⟨w14, hw⟩ : ∃ W, (w13.setCell ⟨g, 6, none⟩ (.int .i64 v6)) = W := ⟨_, rfl⟩
 rw [hw] at HT14 ⊢
 clear hw HT13 d6 z6 d0 z0
 have h4 := eList_trs HT14.out.i HT14.out.d HO7.out
 rw [HE7.out.1, HE7.out.2] at h4
 refine h4.mono ?_
 rintro e w15 ⟨v_, rfl, hv, h1, h2, h3⟩
 obtain ⟨A8, c8, rfl⟩ := Kd.R_slice (Kd.S_R hv)
 have HT15 := Lib.hid (HT14.out.callS h1 h2 h3 hv)
 have HLO15 := Lib.hid (show w14.heap.size ≤ w15.heap.size from h3.size)
 clear h1 h2 h3 h4 hv HT14
 have d8 : w15.cell? ⟨g, 8, none⟩ = some (.slice none 0 0) := (blk_cell HT15.out.y 8).trans rfl
 have z8 : w15.frozen? ⟨g, 8, none⟩ = false := blk_frozen HT15.out.y 8
 have d0 : w15.cell? ⟨g, 0, none⟩ = some (.int .i64 3) := (blk_cell HT15.out.y 0).trans rfl
 have z0 : w15.frozen? ⟨g, 0, none⟩ = false := blk_frozen HT15.out.y 0
 go_upto_region 28 with fail
 have HT16 := Lib.hid (HT15.out.put 8 (.slice A8 v7.length c8))
 obtain ⟨w16, hw⟩ : ∃ W, (w15.setCell ⟨g, 8, none⟩ (.slice A8 v7.length c8)) = W := ⟨_, rfl⟩
 rw [hw] at HT16 ⊢
 clear hw HT15 d8 z8 d0 z0
 have hT : Fr _ w0 w x g 34 _ #[.int .i64 3, .int .i64 v1, .int .i64 v2, .int .i64 v3, .int .i64 v4, .int .i64 v5, .int .i64 v6, .bool false, .slice A8 v7.length c8, .int .i64 0, .int .i64 0, .int .i64 0, .slice none 0 0, .int .i64 0, .int .i64 0, .int .i64 0, .slice none 0 0] _ _ _ := HT16.out
 refine wp_region_list ?_
 refine wpList_load_row rfl 34 (.tmp 4) rfl g rfl 34 _ (0, 0) _ hT.y Tryz.underlying34 rfl (by kernel_rfl) ?_
 refine wpList_store_row rfl 34 (.tmp 2) (.tmp 94) rfl w.heap.size _ rfl rfl 34 _ hT.g0 (by kernel_rfl) rfl (by simp [Value.oneCell']) ?_
 go_wp2_with fail
 refine bodyPost_ret (results_cell_row rfl _ _ w.heap.size 34 _ (0, 0) _ rfl hT.fin.1 Tryz.underlying34 rfl (by kernel_rfl)) rfl ?_
 rw [HF.out]
 exact ⟨_, _, _, rfl, Kd.R_mono (Kd.S_R hT.fin.2.1.2) (fun _ _ => trivial), Kd.R_nil _ _ _ _ _, Kd.R_nil _ _ _ _ _, hT.fin.2.2.1, hT.fin.2.2.2.1, hT.fin.2.2.2.2⟩
set_option maxHeartbeats 4000000 in
theorem eMsg5 {w0 w : World} {x : Nat} {s : EyeS} (hI : IsEye w0 w x s) (hB : Below w0.heap.size w0 w) (hok : okS s) (hk : (eNum s).1 = 5) (he : (eNum s).2.e = 0) :
  Calls Tryz.prog 60 #[.pointer (some ⟨x, 0, none⟩)] w fun e w' => MsP (fun W s => IsEye w0 W x s) w0 w x (eMsg s).1 (eMsg s).2 e w' := by
 have HT1 := Lib.hid (Fo.start (I := fun W s => IsEye w0 W x s) (T := 34) (zs := #[.int .i64 0, .int .i64 0, .int .i64 0, .int .i64 0, .int .i64 0, .int .i64 0, .int .i64 0, .bool false, .slice none 0 0, .int .i64 0, .int .i64 0, .int .i64 0, .slice none 0 0, .int .i64 0, .int .i64 0, .int .i64 0, .slice none 0 0]) hI hB hI.lt hI.ge (fun _ _ _ e h => h.at e))
 obtain ⟨s1, hs1⟩ : ∃ s1, (eNum s).2 = s1 := ⟨_, rfl⟩
 have HN := Lib.hid (And.intro hk hs1)
 have HO0 := Lib.hid hok
 have ho1 := okS_num hok
 rw [hs1] at ho1 he
 have HF0 := Lib.hid (show eMsg s = mBody eSmall eEntry (eList eTr) 5 s1 by
  have hm : eMk s = s1 := by unfold eMk; rw [hk, hs1]; exact eWrong_false _
  unfold eMsg
  rw [hm, if_neg (fun q => q he), hk])
 clear hI hB hok hk hs1
 obtain ⟨v1, hv1⟩ : ∃ v, (eSmall s1).1 = v := ⟨_, rfl⟩
 obtain ⟨s2, hs2⟩ : ∃ t, (eSmall s1).2 = t := ⟨_, rfl⟩
 have ho2 := okS_small ho1
 rw [hs2] at ho2
 have HO1 := Lib.hid ho1; have HE1 := Lib.hid (And.intro hv1 hs2)
 obtain ⟨v2, hv2⟩ : ∃ v, (eSmall s2).1 = v := ⟨_, rfl⟩
 obtain ⟨s3, hs3⟩ : ∃ t, (eSmall s2).2 = t := ⟨_, rfl⟩
 have ho3 := okS_small ho2
 rw [hs3] at ho3
 have HO2 := Lib.hid ho2; have HE2 := Lib.hid (And.intro hv2 hs3)
 obtain ⟨v3, hv3⟩ : ∃ v, (eNum s3).1 = v := ⟨_, rfl⟩
 obtain ⟨s4, hs4⟩ : ∃ t, (eNum s3).2 = t := ⟨_, rfl⟩
 have ho4 := okS_num ho3
 rw [hs4] at ho4
 have HO3 := Lib.hid ho3; have HE3 := Lib.hid (And.intro hv3 hs4)
 obtain ⟨v4, hv4⟩ : ∃ v, (eNum s4).1 = v := ⟨_, rfl⟩
 obtain ⟨s5, hs5⟩ : ∃ t, (eNum s4).2 = t := ⟨_, rfl⟩
 have ho5 := okS_num ho4
 rw [hs5] at ho5
 have HO4 := Lib.hid ho4; have HE4 := Lib.hid (And.intro hv4 hs5)
 obtain ⟨v5, hv5⟩ : ∃ v, (eNum s5).1 = v := ⟨_, rfl⟩
 obtain ⟨s6, hs6⟩ : ∃ t, (eNum s5).2 = t := ⟨_, rfl⟩
 have ho6 := okS_num ho5
 rw [hs6] at ho6
 have HO5 := Lib.hid ho5; have HE5 := Lib.hid (And.intro hv5 hs6)
 obtain ⟨v6, hv6⟩ : ∃ v, (eNum s6).1 = v := ⟨_, rfl⟩
 obtain ⟨s7, hs7⟩ : ∃ t, (eNum s6).2 = t := ⟨_, rfl⟩
 have ho7 := okS_num ho6
 rw [hs7] at ho7
 have HO6 := Lib.hid ho6; have HE6 := Lib.hid (And.intro hv6 hs7)
 obtain ⟨v7, hv7⟩ : ∃ v, (eSmall s7).1 = v := ⟨_, rfl⟩
 obtain ⟨s8, hs8⟩ : ∃ t, (eSmall s7).2 = t := ⟨_, rfl⟩
 have ho8 := okS_small ho7
 rw [hs8] at ho8
 have HO7 := Lib.hid ho7; have HE7 := Lib.hid (And.intro hv7 hs8)
 obtain ⟨v8, hv8⟩ : ∃ v, (eSmall s8).1 = v := ⟨_, rfl⟩
 obtain ⟨s9, hs9⟩ : ∃ t, (eSmall s8).2 = t := ⟨_, rfl⟩
 have ho9 := okS_small ho8
 rw [hs9] at ho9
 have HO8 := Lib.hid ho8; have HE8 := Lib.hid (And.intro hv8 hs9)
 obtain ⟨v9, hv9⟩ : ∃ v, (eData s9).1 = v := ⟨_, rfl⟩
 obtain ⟨s10, hs10⟩ : ∃ t, (eData s9).2 = t := ⟨_, rfl⟩
 have ho10 := okS_data ho9
 rw [hs10] at ho10
 have HO9 := Lib.hid ho9; have HE9 := Lib.hid (And.intro hv9 hs10)
 have HF := Lib.hid (show eMsg s = (⟨5, v1, v2, v3, v4, v5, 0, false, [], zE, ⟨v6, v7, v8, v9⟩⟩, s10) by
  rw [HF0.out]
  unfold mBody
  rw [if_neg (by decide)]; rw [if_neg (by decide)]; rw [if_neg (by decide)]; rw [if_neg (by decide)]; rw [if_pos rfl]; unfold ptOf
  simp only [FM, PR, enOf, hv1, hs2, hv2, hs3, hv3, hs4, hv4, hs5, hv5, hs6, hv6, hs7, hv7, hs8, hv8, hs9, hv9, hs10])
 clear HF0 hv1 hs2 ho1 hv2 hs3 ho2 hv3 hs4 ho3 hv4 hs5 ho4 hv5 hs6 ho5 hv6 hs7 ho6 hv7 hs8 ho7 hv8 hs9 ho8 hv9 hs10 ho9 ho10
 have HQ := Lib.hid (show (s1.e != 0) = false by rw [he]; rfl)
 clear he
 go_enter Tryz.func60, Tryz.ntmps60
 go_upto_region 1 with fail
 obtain ⟨w1, hw1⟩ : ∃ w1, w.alloc (.cells #[.int .i64 0, .int .i64 0, .int .i64 0, .int .i64 0, .int .i64 0, .int .i64 0, .int .i64 0, .bool false, .slice none 0 0, .int .i64 0, .int .i64 0, .int .i64 0, .slice none 0 0, .int .i64 0, .int .i64 0, .int .i64 0, .slice none 0 0] 34) = w1 := ⟨_, rfl⟩
 rw [hw1] at HT1 ⊢
 clear hw1
 go_wp2_with fail
 have h4 := eNum_is HT1.out.i HT1.out.d HO0.out
 rw [HN.out.1, HN.out.2] at h4
 refine h4.mono ?_
 rintro e w2 ⟨rfl, h1, h2, h3⟩
 have HT2 := Lib.hid (HT1.out.call h1 h2 h3)
 clear h1 h2 h3 h4 HT1 HN
 go_wp2_with fail
 have h4 := eWrong_is HT2.out.i HT2.out.d false
 rw [eWrong_false] at h4
 refine h4.mono ?_
 rintro e w3 ⟨rfl, h1, h2, h3⟩
 have HT3 := Lib.hid (HT2.out.call h1 h2 h3)
 clear h1 h2 h3 h4 HT2
 have c1 : w3.cell? ⟨x, 1, none⟩ = some (.int .i64 s1.e) := by
  obtain ⟨A, c, g1, _⟩ := HT3.out.i
  simp [World.cell?, g1]
 have hq := HQ.out
 go_wp2_with fail
 clear c1 hq
 have h4 := eSmall_is HT3.out.i HT3.out.d HO1.out
 rw [HE1.out.1, HE1.out.2] at h4
 refine h4.mono ?_
 rintro e w4 ⟨rfl, h1, h2, h3⟩
 have HT4 := Lib.hid (HT3.out.call h1 h2 h3)
 clear h1 h2 h3 h4 HT3
 go_wp2_with fail
 have h4 := eSmall_is HT4.out.i HT4.out.d HO2.out
 rw [HE2.out.1, HE2.out.2] at h4
 refine h4.mono ?_
 rintro e w5 ⟨rfl, h1, h2, h3⟩
 have HT5 := Lib.hid (HT4.out.call h1 h2 h3)
 clear h1 h2 h3 h4 HT4
 go_upto_region 6 with fail
 have HT6 := Lib.hid (HT5.out.lay #[.int .i64 5, .int .i64 v1, .int .i64 v2, .int .i64 0, .int .i64 0, .int .i64 0, .int .i64 0, .bool false, .slice none 0 0, .int .i64 0, .int .i64 0, .int .i64 0, .slice none 0 0, .int .i64 0, .int .i64 0, .int .i64 0, .slice none 0 0])
 obtain ⟨g, hg⟩ : ∃ g, w5.heap.size = g := ⟨_, rfl⟩
 obtain ⟨w6, hw6⟩ : ∃ w6, w5.alloc (.cells #[.int .i64 5, .int .i64 v1, .int .i64 v2, .int .i64 0, .int .i64 0, .int .i64 0, .int .i64 0, .bool false, .slice none 0 0, .int .i64 0, .int .i64 0, .int .i64 0, .slice none 0 0, .int .i64 0, .int .i64 0, .int .i64 0, .slice none 0 0] 34) = w6 := ⟨_, rfl⟩
 rw [hg, hw6] at HT6
 rw [hw6, hg]
 clear hg hw6 HT5
 have b0 : w6.cell? ⟨g, 0, none⟩ = some (.int .i64 5) := (blk_cell HT6.out.y 0).trans rfl
 go_wp2_with fail
 have h4 := eNum_is HT6.out.i HT6.out.d HO3.out
 rw [HE3.out.1, HE3.out.2] at h4
 refine h4.mono ?_
 rintro e w7 ⟨rfl, h1, h2, h3⟩
 have HT7 := Lib.hid (HT6.out.call h1 h2 h3)
 clear h1 h2 h3 h4 HT6
 clear b0
 have d3 : w7.cell? ⟨g, 3, none⟩ = some (.int .i64 0) := (blk_cell HT7.out.y 3).trans rfl
 have z3 : w7.frozen? ⟨g, 3, none⟩ = false := blk_frozen HT7.out.y 3
 have d0 : w7.cell? ⟨g, 0, none⟩ = some (.int .i64 5) := (blk_cell HT7.out.y 0).trans rfl
 have z0 : w7.frozen? ⟨g, 0, none⟩ = false := blk_frozen HT7.out.y 0
 go_wp2_with fail
 have HT8 := Lib.hid (HT7.out.put 3 (.int .i64 v3))
 obtain ⟨w8, hw⟩ : ∃ W, (w7.setCell ⟨g, 3, none⟩ (.int .i64 v3)) = W := ⟨_, rfl⟩
 rw [hw] at HT8 ⊢
 clear hw HT7 d3 z3 d0 z0
 have h4 := eNum_is HT8.out.i HT8.out.d HO4.out
 rw [HE4.out.1, HE4.out.2] at h4
 refine h4.mono ?_
 rintro e w9 ⟨rfl, h1, h2, h3⟩
 have HT9 := Lib.hid (HT8.out.call h1 h2 h3)
 clear h1 h2 h3 h4 HT8
 have d4 : w9.cell? ⟨g, 4, none⟩ = some (.int .i64 0) := (blk_cell HT9.out.y 4).trans rfl
 have z4 : w9.frozen? ⟨g, 4, none⟩ = false := blk_frozen HT9.out.y 4
 have d0 : w9.cell? ⟨g, 0, none⟩ = some (.int .i64 5) := (blk_cell HT9.out.y 0).trans rfl
 have z0 : w9.frozen? ⟨g, 0, none⟩ = false := blk_frozen HT9.out.y 0
 go_wp2_with fail
 have HT10 := Lib.hid (HT9.out.put 4 (.int .i64 v4))
 obtain ⟨w10, hw⟩ : ∃ W, (w9.setCell ⟨g, 4, none⟩ (.int .i64 v4)) = W := ⟨_, rfl⟩
 rw [hw] at HT10 ⊢
 clear hw HT9 d4 z4 d0 z0
 have h4 := eNum_is HT10.out.i HT10.out.d HO5.out
 rw [HE5.out.1, HE5.out.2] at h4
 refine h4.mono ?_
 rintro e w11 ⟨rfl, h1, h2, h3⟩
 have HT11 := Lib.hid (HT10.out.call h1 h2 h3)
 clear h1 h2 h3 h4 HT10
 have d5 : w11.cell? ⟨g, 5, none⟩ = some (.int .i64 0) := (blk_cell HT11.out.y 5).trans rfl
 have z5 : w11.frozen? ⟨g, 5, none⟩ = false := blk_frozen HT11.out.y 5
 have d0 : w11.cell? ⟨g, 0, none⟩ = some (.int .i64 5) := (blk_cell HT11.out.y 0).trans rfl
 have z0 : w11.frozen? ⟨g, 0, none⟩ = false := blk_frozen HT11.out.y 0
 go_wp2_with fail
 have HT12 := Lib.hid (HT11.out.put 5 (.int .i64 v5))
 obtain ⟨w12, hw⟩ : ∃ W, (w11.setCell ⟨g, 5, none⟩ (.int .i64 v5)) = W := ⟨_, rfl⟩
 rw [hw] at HT12 ⊢
 clear hw HT11 d5 z5 d0 z0
 have h4 := eNum_is HT12.out.i HT12.out.d HO6.out
 rw [HE6.out.1, HE6.out.2] at h4
 refine h4.mono ?_
 rintro e w13 ⟨rfl, h1, h2, h3⟩
 have HT13 := Lib.hid (HT12.out.call h1 h2 h3)
 clear h1 h2 h3 h4 HT12
 go_wp2_with fail
 have h4 := eSmall_is HT13.out.i HT13.out.d HO7.out
 rw [HE7.out.1, HE7.out.2] at h4
 refine h4.mono ?_
 rintro e w14 ⟨rfl, h1, h2, h3⟩
 have HT14 := Lib.hid (HT13.out.call h1 h2 h3)
 clear h1 h2 h3 h4 HT13
 go_wp2_with fail
 have h4 := eSmall_is HT14.out.i HT14.out.d HO8.out
 rw [HE8.out.1, HE8.out.2] at h4
 refine h4.mono ?_
 rintro e w15 ⟨rfl, h1, h2, h3⟩
 have HT15 := Lib.hid (HT14.out.call h1 h2 h3)
 clear h1 h2 h3 h4 HT14
 go_wp2_with fail
 have h4 := eData_is HT15.out.i HT15.out.d HO9.out
 rw [HE9.out.1, HE9.out.2] at h4
 refine h4.mono ?_
 rintro e w16 ⟨v_, rfl, hv, h1, h2, h3⟩
 obtain ⟨A16, c16, rfl⟩ := Kd.R_slice hv
 have HT16 := Lib.hid (HT15.out.callR h1 h2 h3 hv)
 have HLO16 := Lib.hid (show w15.heap.size ≤ w16.heap.size from h3.size)
 clear h1 h2 h3 h4 hv HT15
 have d13 : w16.cell? ⟨g, 13, none⟩ = some (.int .i64 0) := (blk_cell HT16.out.y 13).trans rfl
 have z13 : w16.frozen? ⟨g, 13, none⟩ = false := blk_frozen HT16.out.y 13
 have d14 : w16.cell? ⟨g, 14, none⟩ = some (.int .i64 0) := (blk_cell HT16.out.y 14).trans rfl
 have z14 : w16.frozen? ⟨g, 14, none⟩ = false := blk_frozen HT16.out.y 14
 have d15 : w16.cell? ⟨g, 15, none⟩ = some (.int .i64 0) := (blk_cell HT16.out.y 15).trans rfl
 have z15 : w16.frozen? ⟨g, 15, none⟩ = false := blk_frozen HT16.out.y 15
 have d16 : w16.cell? ⟨g, 16, none⟩ = some (.slice none 0 0) := (blk_cell HT16.out.y 16).trans rfl
 have z16 : w16.frozen? ⟨g, 16, none⟩ = false := blk_frozen HT16.out.y 16
 have d0 : w16.cell? ⟨g, 0, none⟩ = some (.int .i64 5) := (blk_cell HT16.out.y 0).trans rfl
 have z0 : w16.frozen? ⟨g, 0, none⟩ = false := blk_frozen HT16.out.y 0
 go_upto_region 28 with fail
 have HT17 := Lib.hid ((((HT16.out.put 13 (.int .i64 v6)).put 14 (.int .i64 v7)).put 15 (.int .i64 v8)).put 16 (.slice A16 v9.length c16))
 obtain ⟨w17, hw⟩ : ∃ W, ((((w16.setCell ⟨g, 13, none⟩ (.int .i64 v6)).setCell ⟨g, 14, none⟩ (.int .i64 v7)).setCell ⟨g, 15, none⟩ (.int .i64 v8)).setCell ⟨g, 16, none⟩ (.slice A16 v9.length c16)) = W := ⟨_, rfl⟩
 rw [hw] at HT17 ⊢
 clear hw HT16 d13 z13 d14 z14 d15 z15 d16 z16 d0 z0
 have hT : Fr _ w0 w x g 34 _ #[.int .i64 5, .int .i64 v1, .int .i64 v2, .int .i64 v3, .int .i64 v4, .int .i64 v5, .int .i64 0, .bool false, .slice none 0 0, .int .i64 0, .int .i64 0, .int .i64 0, .slice none 0 0, .int .i64 v6, .int .i64 v7, .int .i64 v8, .slice A16 v9.length c16] _ _ _ := HT17.out
 refine wp_region_list ?_
 refine wpList_load_row rfl 34 (.tmp 4) rfl g rfl 34 _ (0, 0) _ hT.y Tryz.underlying34 rfl (by kernel_rfl) ?_
 refine wpList_store_row rfl 34 (.tmp 2) (.tmp 94) rfl w.heap.size _ rfl rfl 34 _ hT.g0 (by kernel_rfl) rfl (by simp [Value.oneCell']) ?_
 go_wp2_with fail
 refine bodyPost_ret (results_cell_row rfl _ _ w.heap.size 34 _ (0, 0) _ rfl hT.fin.1 Tryz.underlying34 rfl (by kernel_rfl)) rfl ?_
 rw [HF.out]
 exact ⟨_, _, _, rfl, Kd.R_nil _ _ _ _ _, Kd.R_nil _ _ _ _ _, Kd.R_mono hT.fin.2.1.2 (fun _ _ => trivial), hT.fin.2.2.1, hT.fin.2.2.2.1, hT.fin.2.2.2.2⟩
end Go.Proofs.YtgiefblcckikeaaGreat.M
end

section
/- The eye: a message, the rest (printed by geneym04.py). -/
attribute [local irreducible] Go.wpStill
namespace Go.Proofs.YtgiefblcckikeaaGreat.M
open Go.RowKit Go.Proofs.YtgiefblcckikeaaGreatW.PrintWords Go.Proofs.YtgiefblcckikeaaGreatW.PrintLast Go.Proofs.YtgiefblcckikeaaGreatW.PrintMore Go.Proofs.YtgiefblcckikeaaGreat.G
set_option maxHeartbeats 4000000 in
theorem eMsg6 {w0 w : World} {x : Nat} {s : EyeS} (hI : IsEye w0 w x s) (hB : Below w0.heap.size w0 w) (hok : okS s) (hk : (eNum s).1 = 6) (he : (eNum s).2.e = 0) :
  Calls Tryz.prog 60 #[.pointer (some ⟨x, 0, none⟩)] w fun e w' => MsP (fun W s => IsEye w0 W x s) w0 w x (eMsg s).1 (eMsg s).2 e w' := by
 have HT1 := Lib.hid (Fo.start (I := fun W s => IsEye w0 W x s) (T := 34) (zs := #[.int .i64 0, .int .i64 0, .int .i64 0, .int .i64 0, .int .i64 0, .int .i64 0, .int .i64 0, .bool false, .slice none 0 0, .int .i64 0, .int .i64 0, .int .i64 0, .slice none 0 0, .int .i64 0, .int .i64 0, .int .i64 0, .slice none 0 0]) hI hB hI.lt hI.ge (fun _ _ _ e h => h.at e))
 obtain ⟨s1, hs1⟩ : ∃ s1, (eNum s).2 = s1 := ⟨_, rfl⟩
 have HN := Lib.hid (And.intro hk hs1)
 have HO0 := Lib.hid hok
 have ho1 := okS_num hok
 rw [hs1] at ho1 he
 have HF0 := Lib.hid (show eMsg s = mBody eSmall eEntry (eList eTr) 6 s1 by
  have hm : eMk s = s1 := by unfold eMk; rw [hk, hs1]; exact eWrong_false _
  unfold eMsg
  rw [hm, if_neg (fun q => q he), hk])
 clear hI hB hok hk hs1
 obtain ⟨v1, hv1⟩ : ∃ v, (eSmall s1).1 = v := ⟨_, rfl⟩
 obtain ⟨s2, hs2⟩ : ∃ t, (eSmall s1).2 = t := ⟨_, rfl⟩
 have ho2 := okS_small ho1
 rw [hs2] at ho2
 have HO1 := Lib.hid ho1; have HE1 := Lib.hid (And.intro hv1 hs2)
 obtain ⟨v2, hv2⟩ : ∃ v, (eSmall s2).1 = v := ⟨_, rfl⟩
 obtain ⟨s3, hs3⟩ : ∃ t, (eSmall s2).2 = t := ⟨_, rfl⟩
 have ho3 := okS_small ho2
 rw [hs3] at ho3
 have HO2 := Lib.hid ho2; have HE2 := Lib.hid (And.intro hv2 hs3)
 obtain ⟨⟨y0, y1, y2, yl⟩, hv3⟩ : ∃ v, (eEntry s3).1 = v := ⟨_, rfl⟩
 obtain ⟨s4, hs4⟩ : ∃ t, (eEntry s3).2 = t := ⟨_, rfl⟩
 have ho4 := okS_entry ho3
 rw [hs4] at ho4
 have HO3 := Lib.hid ho3; have HE3 := Lib.hid (And.intro hv3 hs4)
 have HF := Lib.hid (show eMsg s = (⟨6, v1, v2, 0, 0, 0, 0, false, [], ⟨y0, y1, y2, yl⟩, zP⟩, s4) by
  rw [HF0.out]
  unfold mBody
  rw [if_neg (by decide)]; rw [if_neg (by decide)]; rw [if_neg (by decide)]; rw [if_neg (by decide)]; rw [if_neg (by decide)]; rw [if_pos rfl]
  simp only [FM, PR, enOf, hv1, hs2, hv2, hs3, hv3, hs4])
 clear HF0 hv1 hs2 ho1 hv2 hs3 ho2 hv3 hs4 ho3 ho4
 have HQ := Lib.hid (show (s1.e != 0) = false by rw [he]; rfl)
 clear he
 go_enter Tryz.func60, Tryz.ntmps60
 go_upto_region 1 with fail
 obtain ⟨w1, hw1⟩ : ∃ w1, w.alloc (.cells #[.int .i64 0, .int .i64 0, .int .i64 0, .int .i64 0, .int .i64 0, .int .i64 0, .int .i64 0, .bool false, .slice none 0 0, .int .i64 0, .int .i64 0, .int .i64 0, .slice none 0 0, .int .i64 0, .int .i64 0, .int .i64 0, .slice none 0 0] 34) = w1 := ⟨_, rfl⟩
 rw [hw1] at HT1 ⊢
 clear hw1
 go_wp2_with fail
 have h4 := eNum_is HT1.out.i HT1.out.d HO0.out
 rw [HN.out.1, HN.out.2] at h4
 refine h4.mono ?_
 rintro e w2 ⟨rfl, h1, h2, h3⟩
 have HT2 := Lib.hid (HT1.out.call h1 h2 h3)
 clear h1 h2 h3 h4 HT1 HN
 go_wp2_with fail
 have h4 := eWrong_is HT2.out.i HT2.out.d false
 rw [eWrong_false] at h4
 refine h4.mono ?_
 rintro e w3 ⟨rfl, h1, h2, h3⟩
 have HT3 := Lib.hid (HT2.out.call h1 h2 h3)
 clear h1 h2 h3 h4 HT2
 have c1 : w3.cell? ⟨x, 1, none⟩ = some (.int .i64 s1.e) := by
  obtain ⟨A, c, g1, _⟩ := HT3.out.i
  simp [World.cell?, g1]
 have hq := HQ.out
 go_wp2_with fail
 clear c1 hq
 have h4 := eSmall_is HT3.out.i HT3.out.d HO1.out
 rw [HE1.out.1, HE1.out.2] at h4
 refine h4.mono ?_
 rintro e w4 ⟨rfl, h1, h2, h3⟩
 have HT4 := Lib.hid (HT3.out.call h1 h2 h3)
 clear h1 h2 h3 h4 HT3
 go_wp2_with fail
 have h4 := eSmall_is HT4.out.i HT4.out.d HO2.out
 rw [HE2.out.1, HE2.out.2] at h4
 refine h4.mono ?_
 rintro e w5 ⟨rfl, h1, h2, h3⟩
 have HT5 := Lib.hid (HT4.out.call h1 h2 h3)
 clear h1 h2 h3 h4 HT4
 go_upto_region 6 with fail
 have HT6 := Lib.hid (HT5.out.lay #[.int .i64 6, .int .i64 v1, .int .i64 v2, .int .i64 0, .int .i64 0, .int .i64 0, .int .i64 0, .bool false, .slice none 0 0, .int .i64 0, .int .i64 0, .int .i64 0, .slice none 0 0, .int .i64 0, .int .i64 0, .int .i64 0, .slice none 0 0])
 obtain ⟨g, hg⟩ : ∃ g, w5.heap.size = g := ⟨_, rfl⟩
 obtain ⟨w6, hw6⟩ : ∃ w6, w5.alloc (.cells #[.int .i64 6, .int .i64 v1, .int .i64 v2, .int .i64 0, .int .i64 0, .int .i64 0, .int .i64 0, .bool false, .slice none 0 0, .int .i64 0, .int .i64 0, .int .i64 0, .slice none 0 0, .int .i64 0, .int .i64 0, .int .i64 0, .slice none 0 0] 34) = w6 := ⟨_, rfl⟩
 rw [hg, hw6] at HT6
 rw [hw6, hg]
 clear hg hw6 HT5
 have b0 : w6.cell? ⟨g, 0, none⟩ = some (.int .i64 6) := (blk_cell HT6.out.y 0).trans rfl
 go_wp2_with fail
 have h4 := eEntry_is HT6.out.i HT6.out.d HO3.out
 rw [HE3.out.1, HE3.out.2] at h4
 refine h4.mono ?_
 rintro e w7 ⟨v_, rfl, hv, h1, h2, h3⟩
 have hv : Kd.S G.k26 26 w7 w6.heap.size (fun _ => True) v_ yl := hv
 obtain ⟨A12, c12, rfl⟩ := Kd.S_slice hv
 have HT7 := Lib.hid (HT6.out.callS h1 h2 h3 hv)
 clear h1 h2 h3 h4 hv HT6
 clear b0
 have d9 : w7.cell? ⟨g, 9, none⟩ = some (.int .i64 0) := (blk_cell HT7.out.y 9).trans rfl
 have z9 : w7.frozen? ⟨g, 9, none⟩ = false := blk_frozen HT7.out.y 9
 have d10 : w7.cell? ⟨g, 10, none⟩ = some (.int .i64 0) := (blk_cell HT7.out.y 10).trans rfl
 have z10 : w7.frozen? ⟨g, 10, none⟩ = false := blk_frozen HT7.out.y 10
 have d11 : w7.cell? ⟨g, 11, none⟩ = some (.int .i64 0) := (blk_cell HT7.out.y 11).trans rfl
 have z11 : w7.frozen? ⟨g, 11, none⟩ = false := blk_frozen HT7.out.y 11
 have d12 : w7.cell? ⟨g, 12, none⟩ = some (.slice none 0 0) := (blk_cell HT7.out.y 12).trans rfl
 have z12 : w7.frozen? ⟨g, 12, none⟩ = false := blk_frozen HT7.out.y 12
 have d0 : w7.cell? ⟨g, 0, none⟩ = some (.int .i64 6) := (blk_cell HT7.out.y 0).trans rfl
 have z0 : w7.frozen? ⟨g, 0, none⟩ = false := blk_frozen HT7.out.y 0
 go_upto_region 8 with fail
 have HT8 := Lib.hid ((((HT7.out.put 9 (.int .i64 y0)).put 10 (.int .i64 y1)).put 11 (.int .i64 y2)).put 12 (.slice A12 yl.length c12))
 obtain ⟨w8, hw⟩ : ∃ W, ((((w7.setCell ⟨g, 9, none⟩ (.int .i64 y0)).setCell ⟨g, 10, none⟩ (.int .i64 y1)).setCell ⟨g, 11, none⟩ (.int .i64 y2)).setCell ⟨g, 12, none⟩ (.slice A12 yl.length c12)) = W := ⟨_, rfl⟩
 rw [hw] at HT8 ⊢
 clear hw HT7 d9 z9 d10 z10 d11 z11 d12 z12 d0 z0
 have hT : Fr _ w0 w x g 34 _ #[.int .i64 6, .int .i64 v1, .int .i64 v2, .int .i64 0, .int .i64 0, .int .i64 0, .int .i64 0, .bool false, .slice none 0 0, .int .i64 y0, .int .i64 y1, .int .i64 y2, .slice A12 yl.length c12, .int .i64 0, .int .i64 0, .int .i64 0, .slice none 0 0] _ _ _ := HT8.out
 refine wp_region_list ?_
 refine wpList_load_row rfl 34 (.tmp 4) rfl g rfl 34 _ (0, 0) _ hT.y Tryz.underlying34 rfl (by kernel_rfl) ?_
 refine wpList_store_row rfl 34 (.tmp 2) (.tmp 33) rfl w.heap.size _ rfl rfl 34 _ hT.g0 (by kernel_rfl) rfl (by simp [Value.oneCell']) ?_
 go_wp2_with fail
 refine bodyPost_ret (results_cell_row rfl _ _ w.heap.size 34 _ (0, 0) _ rfl hT.fin.1 Tryz.underlying34 rfl (by kernel_rfl)) rfl ?_
 rw [HF.out]
 exact ⟨_, _, _, rfl, Kd.R_nil _ _ _ _ _, Kd.R_mono (Kd.S_R hT.fin.2.1.2) (fun _ _ => trivial), Kd.R_nil _ _ _ _ _, hT.fin.2.2.1, hT.fin.2.2.2.1, hT.fin.2.2.2.2⟩
set_option maxHeartbeats 4000000 in
theorem eMsgL {w0 w : World} {x : Nat} {s : EyeS} (hI : IsEye w0 w x s) (hB : Below w0.heap.size w0 w) (hok : okS s) (hn : (eNum s).1 < 1) :
  Calls Tryz.prog 60 #[.pointer (some ⟨x, 0, none⟩)] w fun e w' => MsP (fun W s => IsEye w0 W x s) w0 w x (eMsg s).1 (eMsg s).2 e w' := by
 have HT1 := Lib.hid (Fo.start (I := fun W s => IsEye w0 W x s) (T := 34) (zs := #[.int .i64 0, .int .i64 0, .int .i64 0, .int .i64 0, .int .i64 0, .int .i64 0, .int .i64 0, .bool false, .slice none 0 0, .int .i64 0, .int .i64 0, .int .i64 0, .slice none 0 0, .int .i64 0, .int .i64 0, .int .i64 0, .slice none 0 0]) hI hB hI.lt hI.ge (fun _ _ _ e h => h.at e))
 obtain ⟨k, hk⟩ : ∃ k, (eNum s).1 = k := ⟨_, rfl⟩
 obtain ⟨s1, hs1⟩ : ∃ s1, (eNum s).2 = s1 := ⟨_, rfl⟩
 rw [hk] at hn
 have HF := Lib.hid (show eMsg s = (zM, eWrong true s1) by
  have hm : eMk s = eWrong true s1 := by
   unfold eMk notKind
   rw [hk, hs1]
   congr 1
   simp
   omega
  unfold eMsg
  rw [hm, if_pos (eWrong_true _)])
 have HN := Lib.hid (And.intro hk hs1)
 have HO0 := Lib.hid hok
 clear hI hB hok hk hs1
 have q1 : decide (k < 1) = true := decide_eq_true hn
 have HQ := Lib.hid (show ((eWrong true s1).e != 0) = true from bne_iff_ne.2 (eWrong_true _))
 clear hn
 go_enter Tryz.func60, Tryz.ntmps60
 go_upto_region 1 with fail
 obtain ⟨w1, hw1⟩ : ∃ w1, w.alloc (.cells #[.int .i64 0, .int .i64 0, .int .i64 0, .int .i64 0, .int .i64 0, .int .i64 0, .int .i64 0, .bool false, .slice none 0 0, .int .i64 0, .int .i64 0, .int .i64 0, .slice none 0 0, .int .i64 0, .int .i64 0, .int .i64 0, .slice none 0 0] 34) = w1 := ⟨_, rfl⟩
 rw [hw1] at HT1 ⊢
 clear hw1
 go_wp2_with fail
 have h4 := eNum_is HT1.out.i HT1.out.d HO0.out
 rw [HN.out.1, HN.out.2] at h4
 refine h4.mono ?_
 rintro e w2 ⟨rfl, h1, h2, h3⟩
 have HT2 := Lib.hid (HT1.out.call h1 h2 h3)
 clear h1 h2 h3 h4 HT1 HN
 go_wp2_with fail
 have h4 := eWrong_is HT2.out.i HT2.out.d true
 obtain ⟨s2, hs2⟩ : ∃ t, eWrong true s1 = t := ⟨_, rfl⟩
 rw [hs2] at h4 HF HQ
 clear hs2
 refine h4.mono ?_
 rintro e w3 ⟨rfl, h1, h2, h3⟩
 have HT3 := Lib.hid (HT2.out.call h1 h2 h3)
 clear h1 h2 h3 h4 HT2 q1
 have c1 : w3.cell? ⟨x, 1, none⟩ = some (.int .i64 s2.e) := by
  obtain ⟨A, c, g1, _⟩ := HT3.out.i
  simp [World.cell?, g1]
 have hq := HQ.out
 go_upto_region 4 with fail
 clear c1 hq
 refine wp_region_list ?_
 refine wpList_cut 1 ?_
 simp only [List.take_succ_cons, List.take_zero, List.drop_succ_cons, List.drop_zero]
 go_wp2_with fail
 refine Halt.mk ?_
 have hT := HT3.out
 refine wpList_store_row rfl 34 (.tmp 2) (.tmp 20) rfl w.heap.size #[.int .i64 0, .int .i64 0, .int .i64 0, .int .i64 0, .int .i64 0, .int .i64 0, .int .i64 0, .bool false, .slice none 0 0, .int .i64 0, .int .i64 0, .int .i64 0, .slice none 0 0, .int .i64 0, .int .i64 0, .int .i64 0, .slice none 0 0] rfl rfl 34 _ hT.g0 (by kernel_rfl) rfl (by simp [Value.oneCell']) ?_
 go_wp2_with fail
 refine bodyPost_ret (results_cell_row rfl _ _ w.heap.size 34 _ (0, 0) _ rfl hT.fin.1 Tryz.underlying34 rfl (by kernel_rfl)) rfl ?_
 rw [HF.out]
 exact ⟨_, _, _, rfl, Kd.R_nil _ _ _ _ _, Kd.R_nil _ _ _ _ _, Kd.R_nil _ _ _ _ _, hT.fin.2.1, hT.fin.2.2.1, hT.fin.2.2.2⟩
set_option maxHeartbeats 4000000 in
theorem eMsgH {w0 w : World} {x : Nat} {s : EyeS} (hI : IsEye w0 w x s) (hB : Below w0.heap.size w0 w) (hok : okS s) (hn : 6 < (eNum s).1) :
  Calls Tryz.prog 60 #[.pointer (some ⟨x, 0, none⟩)] w fun e w' => MsP (fun W s => IsEye w0 W x s) w0 w x (eMsg s).1 (eMsg s).2 e w' := by
 have HT1 := Lib.hid (Fo.start (I := fun W s => IsEye w0 W x s) (T := 34) (zs := #[.int .i64 0, .int .i64 0, .int .i64 0, .int .i64 0, .int .i64 0, .int .i64 0, .int .i64 0, .bool false, .slice none 0 0, .int .i64 0, .int .i64 0, .int .i64 0, .slice none 0 0, .int .i64 0, .int .i64 0, .int .i64 0, .slice none 0 0]) hI hB hI.lt hI.ge (fun _ _ _ e h => h.at e))
 obtain ⟨k, hk⟩ : ∃ k, (eNum s).1 = k := ⟨_, rfl⟩
 obtain ⟨s1, hs1⟩ : ∃ s1, (eNum s).2 = s1 := ⟨_, rfl⟩
 rw [hk] at hn
 have HF := Lib.hid (show eMsg s = (zM, eWrong true s1) by
  have hm : eMk s = eWrong true s1 := by
   unfold eMk notKind
   rw [hk, hs1]
   congr 1
   simp
   omega
  unfold eMsg
  rw [hm, if_pos (eWrong_true _)])
 have HN := Lib.hid (And.intro hk hs1)
 have HO0 := Lib.hid hok
 clear hI hB hok hk hs1
 have q1 : decide (k < 1) = false := decide_eq_false (by omega)
 have q2 : decide ((6 : Int) < k) = true := decide_eq_true hn
 have HQ := Lib.hid (show ((eWrong true s1).e != 0) = true from bne_iff_ne.2 (eWrong_true _))
 clear hn
 go_enter Tryz.func60, Tryz.ntmps60
 go_upto_region 1 with fail
 obtain ⟨w1, hw1⟩ : ∃ w1, w.alloc (.cells #[.int .i64 0, .int .i64 0, .int .i64 0, .int .i64 0, .int .i64 0, .int .i64 0, .int .i64 0, .bool false, .slice none 0 0, .int .i64 0, .int .i64 0, .int .i64 0, .slice none 0 0, .int .i64 0, .int .i64 0, .int .i64 0, .slice none 0 0] 34) = w1 := ⟨_, rfl⟩
 rw [hw1] at HT1 ⊢
 clear hw1
 go_wp2_with fail
 have h4 := eNum_is HT1.out.i HT1.out.d HO0.out
 rw [HN.out.1, HN.out.2] at h4
 refine h4.mono ?_
 rintro e w2 ⟨rfl, h1, h2, h3⟩
 have HT2 := Lib.hid (HT1.out.call h1 h2 h3)
 clear h1 h2 h3 h4 HT1 HN
 go_wp2_with fail
 have h4 := eWrong_is HT2.out.i HT2.out.d true
 obtain ⟨s2, hs2⟩ : ∃ t, eWrong true s1 = t := ⟨_, rfl⟩
 rw [hs2] at h4 HF HQ
 clear hs2
 refine h4.mono ?_
 rintro e w3 ⟨rfl, h1, h2, h3⟩
 have HT3 := Lib.hid (HT2.out.call h1 h2 h3)
 clear h1 h2 h3 h4 HT2 q1 q2
 have c1 : w3.cell? ⟨x, 1, none⟩ = some (.int .i64 s2.e) := by
  obtain ⟨A, c, g1, _⟩ := HT3.out.i
  simp [World.cell?, g1]
 have hq := HQ.out
 go_upto_region 4 with fail
 clear c1 hq
 refine wp_region_list ?_
 refine wpList_cut 1 ?_
 simp only [List.take_succ_cons, List.take_zero, List.drop_succ_cons, List.drop_zero]
 go_wp2_with fail
 refine Halt.mk ?_
 have hT := HT3.out
 refine wpList_store_row rfl 34 (.tmp 2) (.tmp 20) rfl w.heap.size #[.int .i64 0, .int .i64 0, .int .i64 0, .int .i64 0, .int .i64 0, .int .i64 0, .int .i64 0, .bool false, .slice none 0 0, .int .i64 0, .int .i64 0, .int .i64 0, .slice none 0 0, .int .i64 0, .int .i64 0, .int .i64 0, .slice none 0 0] rfl rfl 34 _ hT.g0 (by kernel_rfl) rfl (by simp [Value.oneCell']) ?_
 go_wp2_with fail
 refine bodyPost_ret (results_cell_row rfl _ _ w.heap.size 34 _ (0, 0) _ rfl hT.fin.1 Tryz.underlying34 rfl (by kernel_rfl)) rfl ?_
 rw [HF.out]
 exact ⟨_, _, _, rfl, Kd.R_nil _ _ _ _ _, Kd.R_nil _ _ _ _ _, Kd.R_nil _ _ _ _ _, hT.fin.2.1, hT.fin.2.2.1, hT.fin.2.2.2⟩
theorem eMsg_is {w0 w : World} {x : Nat} {s : EyeS} (hI : IsEye w0 w x s) (hB : Below w0.heap.size w0 w) (hok : okS s) :
  Calls Tryz.prog 60 #[.pointer (some ⟨x, 0, none⟩)] w fun e w' => MsP (fun W s => IsEye w0 W x s) w0 w x (eMsg s).1 (eMsg s).2 e w' := by
 by_cases h0 : (eNum s).1 < 1
 ·exact eMsgL hI hB hok h0
 by_cases h7 : 6 < (eNum s).1
 ·exact eMsgH hI hB hok h7
 have he : (eNum s).2.e = 0 := by
  by_cases he : (eNum s).2.e = 0
  ·exact he
  ·have := eNum_z he; omega
 by_cases h1 : (eNum s).1 = 1
 ·exact eMsg1 hI hB hok h1 he
 by_cases h2 : (eNum s).1 = 2
 ·exact eMsg2 hI hB hok h2 he
 by_cases h3 : (eNum s).1 = 3
 ·exact eMsg3 hI hB hok h3 he
 by_cases h4 : (eNum s).1 = 4
 ·exact eMsg4 hI hB hok h4 he
 by_cases h5 : (eNum s).1 = 5
 ·exact eMsg5 hI hB hok h5 he
 exact eMsg6 hI hB hok (by omega) he
end Go.Proofs.YtgiefblcckikeaaGreat.M
end

section
/- What is read is within its kinds: numbers are int64, bytes are bytes. -/
namespace Go.Proofs.YtgiefblcckikeaaGreat.M
open Go.RowKit Go.Proofs.YtgiefblcckikeaaGreatW.PrintWords Go.Proofs.YtgiefblcckikeaaGreatW.PrintLast Go.Proofs.YtgiefblcckikeaaGreatW.PrintMore Go.Proofs.YtgiefblcckikeaaGreat.G
theorem num_i64 {s : EyeS} (h : okS s) : isI64 (eNum s).1 := by
 unfold eNum
 split
 ·show isI64 (takeNum s.l).1
  unfold takeNum
  split
  ·next he => exact (form_one h.1 he).2
  ·exact (by decide : isI64 0)
 ·exact (by decide : isI64 0)
theorem small_i64 {s : EyeS} (h : okS s) : isI64 (eSmall s).1 := by
 rw [eSmall_range]
 split
 ·exact num_i64 h
 ·exact (by decide : isI64 0)
theorem data_ok {s : EyeS} (h : okS s) : okB (eData s).1 = true := by
 unfold eData
 split
 ·show okB (takeBlob s.l).1 = true
  unfold takeBlob
  split
  ·unfold blD; exact okB_drop (okB_take h.1 _) _
  ·rfl
 ·rfl
theorem many_ok {α : Type} {g : EyeS → α × EyeS} {P : α → Prop} (hg : ∀ s, okS s → okS (g s).2 ∧ P (g s).1) : ∀ (n : Nat) (s : EyeS), okS s → ∀ x ∈ (eMany g n s).1, P x
 | 0, s, _ => fun x hx => by cases hx
 | n + 1, s, h => by
  intro x hx
  by_cases he : s.e = 0
  ·simp only [eMany, if_pos he] at hx
   rcases List.mem_cons.1 hx with rfl | hx
   ·exact (hg s h).2
   ·exact many_ok hg n _ (hg s h).1 x hx
  ·rw [eMany_stop he] at hx
   cases hx
theorem list_ok {α : Type} {g : EyeS → α × EyeS} {P : α → Prop} (hg : ∀ s, okS s → okS (g s).2 ∧ P (g s).1) {s : EyeS} (h : okS s) : ∀ x ∈ (eList g s).1, P x :=
 many_ok hg _ _ (okS_wrong _ (okS_num h))
theorem key_ok {s : EyeS} (h : okS s) : okK (eKey s).1 = true := by
 have h1 := eSmall_range s
 have h2 := num_i64 (okS_small h)
 have h0 : -2147483648 ≤ (eSmall s).1 ∧ (eSmall s).1 ≤ 2147483647 := by
  rw [h1]
  split
  ·next q => exact q
  ·exact (by decide : -2147483648 ≤ (0 : Int) ∧ (0 : Int) ≤ 2147483647)
 unfold okK
 exact decide_eq_true ⟨h0.1, h0.2, h2⟩
theorem txn_ok {s : EyeS} (h : okS s) : okT (eTxn s).1 = true := by
 have o1 := okS_num h
 have o2 := okS_num o1
 have o3 := okS_data o2
 have o4 := okS_list (fun _ => okS_num) o3
 have o5 := okS_list (fun _ => okS_key) o4
 unfold okT
 rw [decide_eq_true (show isI64 (eTxn s).1.f0 from num_i64 h), decide_eq_true (show isI64 (eTxn s).1.f1 from num_i64 o1), show okB (eTxn s).1.f2 = true from data_ok o2]
 have a : okI (eTxn s).1.f3 = true := List.all_eq_true.2 (fun x hx => decide_eq_true (list_ok (P := isI64) (fun s h => ⟨okS_num h, num_i64 h⟩) o3 x hx))
 have b : (eTxn s).1.f4.all okK = true := List.all_eq_true.2 (fun x hx => list_ok (P := fun k => okK k = true) (fun s h => ⟨okS_key h, key_ok h⟩) o4 x hx)
 have c : (eTxn s).1.f5.all okK = true := List.all_eq_true.2 (fun x hx => list_ok (P := fun k => okK k = true) (fun s h => ⟨okS_key h, key_ok h⟩) o5 x hx)
 rw [a, b, c]
 rfl
def okEn (x : EnD) : Prop := okE x.1 x.2.1 x.2.2.1 x.2.2.2 = true
theorem okE_mk {k f n : Int} {l : List TxD} (h0 : isI64 k) (h1 : isI64 f) (h2 : isI64 n) (h3 : ∀ t ∈ l, okT t = true) : okE k f n l = true := by
 unfold okE
 rw [decide_eq_true h0, decide_eq_true h1, decide_eq_true h2, List.all_eq_true.2 h3]
 rfl
theorem entry_ok {s : EyeS} (h : okS s) : okEn (eEntry s).1 := by
 unfold eEntry
 split
 ·exact okE_mk (k := 0) (f := 0) (n := 0) (l := []) (by decide) (by decide) (by decide) (fun t ht => by cases ht)
 ·have o := okS_kind h
  exact okE_mk (k := 1) (by decide) (small_i64 o) (num_i64 (okS_small o)) (list_ok (P := fun t => okT t = true) (fun s h => ⟨okS_txn h, txn_ok h⟩) (okS_num (okS_small o)))
def okTr (x : TrD) : Prop := isI64 x.f0 ∧ okE x.f1.f0 x.f1.f1 x.f1.f2 x.f1.f3 = true
theorem tr_ok {s : EyeS} (h : okS s) : okTr (eTr s).1 := ⟨num_i64 h, entry_ok (okS_num h)⟩
theorem okI3 {a b c : Int} (h0 : isI64 a) (h1 : isI64 b) (h2 : isI64 c) : okI [a, b, c] = true := okI_cons.2 ⟨h0, okI_cons.2 ⟨h1, okI_cons.2 ⟨h2, rfl⟩⟩⟩
theorem okI4 {a b c d : Int} (h0 : isI64 a) (h1 : isI64 b) (h2 : isI64 c) (h3 : isI64 d) : okI [a, b, c, d] = true := okI_cons.2 ⟨h0, okI3 h1 h2 h3⟩
theorem i64_0 : isI64 0 := by decide
theorem zE_ok : okE zE.f0 zE.f1 zE.f2 zE.f3 = true := by decide
theorem okM_zero : OkM zM := ⟨by decide, by decide, by decide, by decide, fun x hx => by cases hx⟩
theorem okM_body (k : Int) (hk : isI64 k) {s : EyeS} (h : okS s) : OkM (mBody eSmall eEntry (eList eTr) k s).1 ∧ isI64 (mBody eSmall eEntry (eList eTr) k s).1.f10.f2 ∧ okB (mBody eSmall eEntry (eList eTr) k s).1.f10.f3 = true := by
 have o1 := okS_small h
 have o2 := okS_small o1
 have a1 := small_i64 h
 have a2 := small_i64 o1
 have a3 := num_i64 o2
 have o3 := okS_num o2
 have a4 := num_i64 o3
 have o4 := okS_num o3
 have a5 := num_i64 o4
 have o5 := okS_num o4
 have a6 := num_i64 o5
 have o6 := okS_num o5
 unfold mBody
 split
 ·exact ⟨⟨okI3 (a := 1) (by decide) a1 a2, okI4 a3 a4 a5 i64_0, okI3 i64_0 i64_0 i64_0, zE_ok, fun x hx => by cases hx⟩, i64_0, rfl⟩
 split
 ·exact ⟨⟨okI3 (a := 2) (by decide) a1 a2, okI4 a3 i64_0 i64_0 i64_0, okI3 i64_0 i64_0 i64_0, zE_ok, fun x hx => by cases hx⟩, i64_0, rfl⟩
 split
 ·exact ⟨⟨okI3 (a := 3) (by decide) a1 a2, okI4 a3 a4 a5 a6, okI3 i64_0 i64_0 i64_0, zE_ok, list_ok (P := okTr) (fun s h => ⟨okS_tr h, tr_ok h⟩) o6⟩, i64_0, rfl⟩
 split
 ·exact ⟨⟨okI3 (a := 4) (by decide) a1 a2, okI4 a3 (num_i64 (okS_yes o3)) i64_0 i64_0, okI3 i64_0 i64_0 i64_0, zE_ok, fun x hx => by cases hx⟩, i64_0, rfl⟩
 split
 ·have o7 := okS_small o6
  exact ⟨⟨okI3 (a := 5) (by decide) a1 a2, okI4 a3 a4 a5 i64_0, okI3 a6 (small_i64 o6) (small_i64 o7), zE_ok, fun x hx => by cases hx⟩, small_i64 o7, data_ok (okS_small o7)⟩
 split
 ·exact ⟨⟨okI3 (a := 6) (by decide) a1 a2, okI4 i64_0 i64_0 i64_0 i64_0, okI3 i64_0 i64_0 i64_0, entry_ok o2, fun x hx => by cases hx⟩, i64_0, rfl⟩
 ·exact ⟨⟨okI3 hk a1 a2, okI4 a3 i64_0 i64_0 i64_0, okI3 i64_0 i64_0 i64_0, zE_ok, fun x hx => by cases hx⟩, i64_0, rfl⟩
theorem okM_eMsg {s : EyeS} (h : okS s) : OkM (eMsg s).1 ∧ isI64 (eMsg s).1.f10.f2 ∧ okB (eMsg s).1.f10.f3 = true := by
 unfold eMsg
 split
 ·exact ⟨okM_zero, i64_0, rfl⟩
 ·exact okM_body _ (num_i64 h) (okS_wrong _ (okS_num h))
end Go.Proofs.YtgiefblcckikeaaGreat.M
end

section
/- Contract of trivet/shape.eight: all eight bytes of a number (what append has not used is noughts). -/
namespace Go.Proofs.YtgiefblcckikeaaGreat.M
open Go.RowKit Go.Proofs.YtgiefblcckikeaaGreatW.PrintWords Go.Proofs.YtgiefblcckikeaaGreatW.PrintLast Go.Proofs.YtgiefblcckikeaaGreatW.PrintMore
def OwnZ (w : World) (base : Nat) (v : Value) (l : List Int) : Prop :=
 (v = .slice none 0 0 ∧ l = []) ∨ ∃ g cap cur, v = .slice (some ⟨g, 0, none⟩) l.length cap ∧ base ≤ g ∧ w.heap[g]? = some (.cells cur 5 (0, 0)) ∧ l.length ≤ cap ∧ cap ≤ maxLen ∧
  cur.toList = l.map (Value.int .u8) ++ List.replicate (cap - l.length) (.int .u8 0)
theorem OwnZ.own {w : World} {base : Nat} {v : Value} {l : List Int} (h : OwnZ w base v l) : w.ownsRow base 5 1 v l.length (l.map (Value.int .u8)) := by
 refine ⟨by simp, ?_⟩
 rcases h with ⟨rfl, rfl⟩ | ⟨g, cap, cur, rfl, h1, h2, h3, h4, h5⟩
 ·exact .inl ⟨rfl, rfl⟩
 ·refine .inr ⟨g, cap, cur, rfl, h1, h2, h3, h4, ?_, ?_⟩
  ·rw [← Array.length_toList, h5]; simp; omega
  ·rw [h5, Nat.mul_one, List.take_left' (by simp)]
theorem zeroCells_toList (n : Nat) : (Builtin.zeroCells #[Value.int .u8 0] n).toList = List.replicate n (.int .u8 0) := by
 refine List.ext_getElem (by simp [Builtin.zeroCells]) (fun i h1 h2 => ?_)
 simp [Builtin.zeroCells, Nat.mod_one]
theorem run_append_z (W : World) (base : Nat) (ty : TypeId) (v : Value) (l : List Int) (h : OwnZ W base v l) (hb : base ≤ W.heap.size) (a : Addr) (c : Nat) (x : Int) (hx : W.cell? a = some (.int .u8 x)) (hl : l.length + 1 ≤ 140737488355328) :
  ∃ v' w', (Builtin.append_ #[23, 23] ty #[v, .slice (some a) 1 c]).run Tryz.prog W = .ok v' w' ∧ OwnZ w' base v' (l ++ [x]) ∧ W.grownBy w' v.ownBlock := by
 obtain ⟨i0, hi, hz0, hz1, hz2⟩ := info_parts infoU8
 have hnews : ∀ j u, [Value.int .u8 x][j]? = some u → W.cell? (a.add j) = some u := by
  intro j u hu
  cases j with
  | zero => simp at hu; subst hu; rw [Addr.add_zero']; exact hx
  | succ j => simp at hu
 have hm : (Value.int .u8 0).cells = #[Value.int .u8 0] := rfl
 rcases h with ⟨rfl, rfl⟩ | ⟨g, cap, cur, rfl, h1, h2, h3, h4, h5⟩
 ·have hr := run_append_nil (P := Tryz.prog) W 23 ty 5 i0 (.int .u8 0) Tryz.underlying23 hi hz0 a 1 c [.int .u8 x] (by rw [hz1]; rfl) hnews (by omega) (by omega) (by rw [hz2]; decide)
  refine ⟨_, _, hr, .inr ⟨W.heap.size, _, _, rfl, hb, heap_alloc_new W.drew _, grownCap_ge W _ _ _, grownCap_le_maxLen W _ _ _ (by decide), ?_⟩, ⟨rfl, rfl, rfl, by simp, fun k hk _ => heap_alloc_old W.drew _ hk⟩⟩
  rw [hm, Array.toList_append, zeroCells_toList]
  rfl
 ·have hlen : cur.size = cap := by rw [← Array.length_toList, h5]; simp; omega
  by_cases hroom : l.length + 1 ≤ cap
  ·have hr := run_append_room (P := Tryz.prog) W 23 ty 5 i0 Tryz.underlying23 hi g l.length cap cur h2 a 1 c [.int .u8 x] (by rw [hz1]; rfl) hnews (by simp [Value.oneCell']) hroom (by rw [hz1, hlen]; simpa using hroom)
   refine ⟨_, _, hr, .inr ⟨g, cap, _, by simp, h1, setRow_heap W g cur _ 5 _ h2, by simpa using hroom, h4, ?_⟩, ⟨rfl, rfl, rfl, by simp, fun k hk hne => setRow_other W g k _ (fun e => hne (by simp [Value.ownBlock, e]))⟩⟩
   rw [hz1, h5, Nat.mul_one]
   rw [List.take_left' (by simp), List.drop_append, List.drop_eq_nil_of_le (by simp)]
   simp only [List.nil_append, List.map_append, List.map_cons, List.map_nil, List.length_append, List.length_map, List.length_cons, List.length_nil, List.drop_replicate]
   congr 2
   omega
  ·have holds : ∀ j u, (l.map (Value.int .u8))[j]? = some u → W.cell? ((⟨g, 0, none⟩ : Addr).add j) = some u := (OwnZ.own (.inr ⟨g, cap, cur, rfl, h1, h2, h3, h4, h5⟩)).cells (g := g) rfl
   have hr := run_append_grow (P := Tryz.prog) W 23 ty 5 i0 (.int .u8 0) Tryz.underlying23 hi hz0 ⟨g, 0, none⟩ l.length cap (l.map (Value.int .u8)) (by rw [hz1]; simp) holds a 1 c [.int .u8 x] (by rw [hz1]; rfl) hnews (by omega) (by omega) (by rw [hz2]; exact growslice_fits (by omega) (by omega))
   refine ⟨_, _, hr, .inr ⟨W.heap.size, grownCap W (l.length + 1) cap 5, _, by simp, hb, heap_alloc_new W.drew _, by simpa using grownCap_ge W (l.length + 1) cap 5, grownCap_le_maxLen W _ _ _ (by unfold maxLen; omega), ?_⟩, ⟨rfl, rfl, rfl, by simp, fun k hk _ => heap_alloc_old W.drew _ hk⟩⟩
   rw [hm]
   simp only [Array.toList_append, zeroCells_toList]
   simp
theorem OwnZ.alloc {W : World} {base : Nat} {v : Value} {l : List Int} (h : OwnZ W base v l) (o : Obj) : OwnZ (W.alloc o) base v l := by
 rcases h with h | ⟨g, cap, cur, h0, h1, h2, h3⟩
 ·exact .inl h
 ·exact .inr ⟨g, cap, cur, h0, h1, (heap_alloc_old W o (Array.getElem?_eq_some_iff.1 h2).1).trans h2, h3⟩
theorem wpList_append_z {ops : Array Oper} {rest : List Oper} {o : Oper} {a : Act} {Q : Exit → Act → World → Prop} {W : World} (base : Nat) (hgd : o.guard = none) (s x : Operand)
  (ho : o.op = .call { callee := .builtin .append, args := #[s, x], argTypes := #[23, 23] })
  (v : Value) (l : List Int) (y : Int) (hs : a.eval s = v) (hx : a.eval x = .slice (some ⟨W.heap.size, 0, none⟩) 1 1) (HO : OwnZ W base v l) (hb : base ≤ W.heap.size) (hl : l.length + 1 ≤ 140737488355328)
  (h : ∀ v' w', OwnZ w' base v' (l ++ [y]) → (W.alloc (.cells #[.int .u8 y] 5)).grownBy w' v.ownBlock → wpList Tryz.prog ops Q rest (a.put o.dst v') w') :
  wpList Tryz.prog ops Q (o :: rest) a (W.alloc (.cells #[.int .u8 y] 5)) := by
 refine wpList_plain hgd fun _ hK => ?_
 obtain ⟨v', w', hr, h2, h3⟩ := run_append_z (W.alloc (.cells #[.int .u8 y] 5)) base o.type v l (HO.alloc _) (by simp; omega) ⟨W.heap.size, 0, none⟩ 1 y (by simp) hl
 unfold Oper.wp execOp
 simp only [ho, resolve, invoke, builtin, Sem.run_bind, Sem.run_pure, Result.andThen_ok, List.map_toArray, List.map_cons, List.map_nil, hs, hx, hr]
 exact hK _ _ (h v' w' h2 h3)
theorem OwnZ.form {W : World} {base : Nat} {v : Value} {l : List Int} (h : OwnZ W base v l) : ∃ A n c, v = .slice A n c := by
 rcases h with ⟨rfl, _⟩ | ⟨g, cap, cur, rfl, _⟩
 ·exact ⟨_, _, _, rfl⟩
 ·exact ⟨_, _, _, rfl⟩
theorem OwnZ.lo {W : World} {base : Nat} {v : Value} {l : List Int} (h : OwnZ W base v l) (k : Nat) (hk : v.ownBlock = some k) : base ≤ k := by
 rcases h with ⟨rfl, _⟩ | ⟨g, cap, cur, rfl, h1, _⟩
 ·simp [Value.ownBlock] at hk
 ·simp [Value.ownBlock] at hk; omega
set_option maxHeartbeats 1000000 in
theorem low_z (n : Nat) (hn : n < 256 ^ 8) (w : World) :
  Calls Tryz.prog 152 #[.int .u64 (n : Int)] w fun e w' => ∃ v, e = .returned v ∧ OwnZ w' w.heap.size v (lowB n) ∧ Below w.heap.size w w' := by
 have HN := Aside0.mk (lowB_len n 8 hn)
 have HNN := Aside0.mk hn
 clear hn
 go_enter Tryz.func152, Tryz.ntmps152
 go_wp2
 go_loopw [0, 3] (fun u v wr => ∃ (m : Nat) (acc : List Int) (Av : Option Addr) (nv cv : Nat), u = .int .u64 (m : Int) ∧ v = .slice Av nv cv ∧ Aside0 (m < 256 ^ 8) ∧ Aside0 (Below w.heap.size w wr) ∧ Aside0 (acc ++ lowB m = lowB n) ∧ Aside0 (OwnZ wr w.heap.size (.slice Av nv cv) acc)) (fun u _ _ => (intOf u).toNat)
 case atStart => exact ⟨n, [], none, 0, 0, rfl, rfl, ⟨HNN.out⟩, ⟨Below.refl _ _⟩, ⟨rfl⟩, ⟨.inl ⟨rfl, rfl⟩⟩⟩
 case round =>
  obtain ⟨m, acc, Av, nv, cv, rfl, rfl, hm, HB, HA, HO⟩ := hrel
  by_cases h0 : 0 < m
  ·have hacc : acc.length + 1 ≤ 8 := by
    have h1 := HN.out
    rw [← HA.out, lowB_pos (by omega)] at h1
    simp at h1; omega
   have h0' : (0 : Int) < (m : Int) := by omega
   go_wp2_with ((with_reducible refine gate_builtin (b := .append) (xs := #[.tmp 8, .tmp 11]) rfl ?_); at_builtin; refine wpList_append_z w.heap.size rfl (.tmp 8) (.tmp 11) rfl _ acc ((m : Int) % 256) rfl rfl HO.out HB.out.size (by omega) ?_; intro v' w' ho hg)
   go_roundw
   case rel =>
    obtain ⟨A2, n2, c2, rfl⟩ := ho.form
    refine ⟨m / 256, acc ++ [(m : Int) % 256], A2, n2, c2, by go_num, rfl, ⟨by have := hm.out; omega⟩, ⟨(HB.out.alloc HB.out.size _).grown hg (by have := HB.out.size; simp; omega) (fun k hk => HO.out.lo k hk)⟩, ⟨?_⟩, ⟨ho⟩⟩
    rw [← HA.out, lowB_pos (n := m) (by omega)]
    simp
   case measure => simp [intOf]; omega
  ·obtain rfl : m = 0 := by omega
   have HZ := Aside0.mk (show acc = lowB n by have := HA.out; rw [lowB_zero, List.append_nil] at this; exact this)
   go_wp2
   go_ret
   exact ⟨_, rfl, by rw [← HZ.out]; exact HO.out, HB.out⟩
def pad8 (l : List Int) : List Int := l ++ List.replicate (8 - l.length) 0
theorem OwnZ.full {w : World} {base g n cap : Nat} {l : List Int} (h : OwnZ w base (.slice (some ⟨g, 0, none⟩) n cap) l) (m : Nat) (hm : l.length ≤ m) (hc : m ≤ cap) : Own w base (.slice (some ⟨g, 0, none⟩) m cap) (l ++ List.replicate (m - l.length) 0) := by
 rcases h with ⟨h, _⟩ | ⟨g', cap', cur, h0, h1, h2, h3, h4, h5⟩
 ·cases h
 ·simp only [Value.slice.injEq, Option.some.injEq, Addr.mk.injEq, and_true] at h0
  obtain ⟨rfl, _, rfl⟩ := h0
  refine Kd.R_of_own (enc := Value.int .u8) ?_ (fun _ _ => trivial)
  have hl : (l ++ List.replicate (m - l.length) (0 : Int)).length = m := by simp; omega
  refine ⟨by simp [encs], .inr ⟨g, cap, cur, by rw [hl], h1, h2, by omega, h4, ?_, ?_⟩⟩
  ·rw [← Array.length_toList, h5]; simp; omega
  ·rw [h5, hl, Nat.mul_one, List.take_append, List.length_map, List.take_of_length_le (by simp; omega), List.take_replicate]
   simp only [encs, List.map_append, List.map_replicate]
   congr 2
   omega
theorem own_form8 {w : World} {base : Nat} {v : Value} {l : List Int} (h : Own w base v l) (hl : l.length = 8) : ∃ g cap, v = .slice (some ⟨g, 0, none⟩) 8 cap ∧ 8 ≤ cap := by
 obtain ⟨A, c, e, hc, _⟩ := Kd.R_reads h
 obtain ⟨g, cap, e2, _⟩ := Kd.R_form h (by omega)
 rw [hl] at e2 hc e
 refine ⟨g, cap, e2, ?_⟩
 rw [e] at e2
 injection e2 with _ _ e3
 omega
theorem own_form8' {w : World} {base : Nat} {v : Value} {l : List Int} (h : Own w base v (l ++ List.replicate 8 0)) (hl : l.length ≤ 8) : ∃ g cap, v = .slice (some ⟨g, 0, none⟩) (l.length + 8) cap ∧ l.length + 8 ≤ cap ∧ Own w base (.slice (some ⟨g, 0, none⟩) 8 cap) (pad8 l) := by
 obtain ⟨A, c, e, hc, _⟩ := Kd.R_reads h
 obtain ⟨g, cap, e2, _⟩ := Kd.R_form h (by simp)
 have hlen : (l ++ List.replicate 8 (0 : Int)).length = l.length + 8 := by simp
 rw [hlen] at e2 hc e
 subst e2
 injection e with e1 _ e3
 refine ⟨g, cap, rfl, by omega, ?_⟩
 have ht := Kd.R_take (m := 8) h (by omega)
 have hp : (l ++ List.replicate 8 (0 : Int)).take 8 = pad8 l := by
  unfold pad8
  rw [List.take_append, List.take_of_length_le hl, List.take_replicate]
  congr 2; omega
 rw [hp] at ht
 exact ht
set_option maxHeartbeats 1000000 in
theorem grow8 (v : Value) (l : List Int) (base : Nat) (w : World) (h : OwnZ w base v l) (hl : l.length ≤ 8) (hb : base ≤ w.heap.size) :
  Calls Tryz.prog 151 #[v, .int .i64 8] w fun e w' => ∃ g cap, e = .returned (.slice (some ⟨g, 0, none⟩) l.length cap) ∧ 8 ≤ cap ∧ Own w' base (.slice (some ⟨g, 0, none⟩) 8 cap) (pad8 l) ∧ Below base w w' := by
 rcases h with ⟨rfl, rfl⟩ | ⟨g, cap, cur, rfl, h1, h2, h3, h4, h5⟩
 ·go_enter Tryz.func151, Tryz.ntmps151
  go_wp2_with ((with_reducible refine gate_builtin (b := .append) (xs := #[.tmp 20, .tmp 21]) rfl ?_); at_builtin; refine Kd.R_append_zeros (Kd.int .u8) (w0 := w) base rfl (.tmp 20) (.tmp 21) 23 3 5 (.int .u8 0) 1 rfl Tryz.underlying23 Tryz.underlying3 infoU8 rfl (by decide) (by decide) (.slice none 0 0) [] 0 8 (fun _ => True) rfl rfl rfl (fun _ _ => trivial) (Kd.R_nil _ _ _ _ _) (by decide) (Below.refl _ _) hb (by decide) ?_; intro v1 w1 ho hbl _ _; obtain ⟨g, cap, hv1, hc1⟩ := own_form8 ho (by simp); subst hv1)
  go_ret
  exact ⟨g, cap, rfl, hc1, ho, hbl⟩
 ·have HZ : OwnZ w base (.slice (some ⟨g, 0, none⟩) l.length cap) l := .inr ⟨g, cap, cur, rfl, h1, h2, h3, h4, h5⟩
  have hcm : (cap : Int) ≤ 9223372036854775807 := by unfold maxLen at h4; omega
  clear h1 h2 h4 h5
  by_cases hr : 8 ≤ cap - l.length
  ·have HO := Aside0.mk (HZ.full 8 (by omega) (by omega))
   have hr' : ¬ (0 : Int) < 8 - ((cap : Int) - (l.length : Int)) := by omega
   have hr2 : decide ((0 : Int) < 8 - ((cap : Int) - (l.length : Int))) = false := decide_eq_false hr'
   clear HZ
   go_enter Tryz.func151, Tryz.ntmps151
   go_wp2
   go_ret
   exact ⟨g, cap, rfl, by omega, HO.out, Below.refl _ _⟩
  ·have HO := Aside0.mk (HZ.full cap (by omega) (Nat.le_refl _))
   have hr' : (0 : Int) < 8 - ((cap : Int) - (l.length : Int)) := by omega
   have HE := Aside0.mk (show l ++ List.replicate (cap - l.length) (0 : Int) ++ List.replicate (8 - ((cap : Int) - (l.length : Int))).toNat 0 = l ++ List.replicate 8 0 by
    rw [List.append_assoc, List.replicate_append_replicate]; congr 2; omega)
   have hcl : (l ++ List.replicate (cap - l.length) (0 : Int)).length = cap := by simp; omega
   have HCL := Aside0.mk hcl
   clear HZ hcl
   go_enter Tryz.func151, Tryz.ntmps151
   go_wp2_with ((with_reducible refine gate_builtin (b := .append) (xs := #[.tmp 20, .tmp 21]) rfl ?_); at_builtin; refine Kd.R_append_zeros (Kd.int .u8) (w0 := w) base rfl (.tmp 20) (.tmp 21) 23 3 5 (.int .u8 0) 1 rfl Tryz.underlying23 Tryz.underlying3 infoU8 rfl (by decide) (by decide) _ _ 0 (8 - ((cap : Int) - (l.length : Int))) (fun _ => True) rfl rfl rfl (fun _ _ => trivial) HO.out (by omega) (Below.refl _ _) hb (by rw [HCL.out]; omega) ?_; intro v1 w1 ho hbl _ _; rw [HE.out] at ho; obtain ⟨g2, cap2, hv1, hc1, ho2⟩ := own_form8' ho hl; clear ho; subst hv1)
   go_ret
   exact ⟨g2, cap2, rfl, by omega, ho2, hbl⟩
def eightB (u : Nat) : List Int := pad8 (lowB u)
theorem eight_calls (u : Nat) (hu : u < 256 ^ 8) (w : World) :
  Calls Tryz.prog 102 #[.int .u64 (u : Int)] w fun e w' => ∃ v0_, e = .returned v0_ ∧ Own w' w.heap.size v0_ (eightB u) ∧ Below w.heap.size w w' := by
 have HL := Aside0.mk (lowB_len u 8 hu)
 have HU := Aside0.mk hu
 clear hu
 go_enter Tryz.func102, Tryz.ntmps102
 go_wp2_with fail
 refine (low_z u HU.out w).mono ?_
 rintro e w1 ⟨v, rfl, ho, hb⟩
 have HO := Aside0.mk ho
 have HB := Aside0.mk hb
 clear ho hb
 go_wp2_with fail
 refine (grow8 v (lowB u) w.heap.size w1 HO.out HL.out HB.out.size).mono ?_
 rintro e w2 ⟨g, cap, rfl, hc, ho2, hb2⟩
 have HO2 := Aside0.mk ho2
 have HB2 := Aside0.mk hb2
 have hc' : (8 : Int) ≤ (cap : Int) := by omega
 have hll := HL.out
 clear ho2 hb2
 go_wp2
 go_ret
 exact ⟨_, rfl, HO2.out, HB.out.trans HB2.out⟩
end Go.Proofs.YtgiefblcckikeaaGreat.M
namespace Go.Proofs.YtgiefblcckikeaaGreat.G
open Go.RowKit Go.Proofs.YtgiefblcckikeaaGreatW.PrintWords Go.Proofs.YtgiefblcckikeaaGreat.M
def shape_eight.f (a0 : Int) : Option (List Int) := if 0 ≤ a0 ∧ a0 ≤ 18446744073709551615 then some (eightB a0.toNat) else none
theorem shape_eight.calls (a0 : Int) (r : List Int) (w : World) (h : shape_eight.f a0 = some r) :
  Calls Tryz.prog 102 #[.int .u64 a0] w fun e w' => ∃ v0_ : Value, e = .returned (v0_) ∧ Kd.R (Kd.int .u8) 5 w' w.heap.size (fun _ => True) v0_ r ∧ Below w.heap.size w w' := by
 unfold shape_eight.f at h
 split at h
 ·rename_i hh
  obtain rfl := Option.some.inj h
  have := eight_calls a0.toNat (by omega) w
  rwa [show ((a0.toNat : Nat) : Int) = a0 from by omega] at this
 ·cases h
end Go.Proofs.YtgiefblcckikeaaGreat.G
end

section
-- Written by a program of this session's (wip/gprint.py over the kit's printer).
namespace Go.Proofs.YtgiefblcckikeaaGreat.G
open Go.RowKit Go.Proofs.YtgiefblcckikeaaGreatW.PrintWords Go.Proofs.YtgiefblcckikeaaGreatW.PrintLast Go.Proofs.YtgiefblcckikeaaGreatW.PrintMore
attribute [local go_sem] max2_int min2_int max_two min_two max_three min_three max_four min_four   -- for this text's walks alone
end Go.Proofs.YtgiefblcckikeaaGreat.G
end

section
-- Written by a program of this session's (wip/gprint.py over the kit's printer).
namespace Go.Proofs.YtgiefblcckikeaaGreat.G
open Go.RowKit Go.Proofs.YtgiefblcckikeaaGreatW.PrintWords Go.Proofs.YtgiefblcckikeaaGreatW.PrintLast Go.Proofs.YtgiefblcckikeaaGreatW.PrintMore
attribute [local go_sem] max2_int min2_int max_two min_two max_three min_three max_four min_four   -- for this text's walks alone
mutual
def shape_Check.l0 : Nat → Int → List (List Int) → Int → Int → Option (Int)
 | 0, _, _, _, _ => none
 | k + 1, x3, x8, x9, x10 => if x10 < x9 then (if 0 ≤ x10 then (if x10 < (x8.length : Int) then (shape_Check.l1 k x3 x8 x9 x10 (rd_L4 x8 x10) ((rd_L4 x8 x10).length : Int) 0) else (none)) else (none)) else (some x3)
def shape_Check.l1 : Nat → Int → List (List Int) → Int → Int → List Int → Int → Int → Option (Int)
 | 0, _, _, _, _, _, _, _ => none
 | k + 1, x3, x8, x9, x10, x14, x15, x16 => if x16 < x15 then (if 0 ≤ x16 then (if x16 < (x14.length : Int) then (shape_Check.l1 k (IntKind.u64.wrap ((Go.bits .xor .u64 x3 (IntKind.u64.wrap (rd x14 x16))) * 1099511628211)) x8 x9 x10 x14 x15 (wrap64 (x16 + 1))) else (none)) else (none)) else (shape_Check.l0 k x3 x8 x9 (wrap64 (x10 + 1)))
end
def shape_Check.f (k : Nat) (l0 : List (List Int)) : Option (Int) := shape_Check.l0 k 14695981039346656037 l0 (l0.length : Int) 0
set_option maxHeartbeats 8000000 in
set_option maxRecDepth 100000 in
theorem shape_Check.calls (k : Nat) (A0 : Option Addr) (c0 : Nat) (l0 : List (List Int)) (r : Int) (w : World) (hr0 : Kd.C (Kd.slice 5 (Kd.int .u8)) w A0 l0.length l0) (hc0 : l0.length ≤ c0) (h : shape_Check.f k l0 = some r) :
  Calls Tryz.prog 103 #[.slice A0 l0.length c0] w fun e w' => e = .returned (.int .u64 r) ∧ Drawn0 w w' := by
 have HR0 := Aside0.mk hr0
 have HC0 := Aside0.mk hc0
 clear hr0 hc0
 have H : (shape_Check.l0 k 14695981039346656037 l0 (l0.length : Int) 0) = some r := h
 clear h
 have H' := Aside0.mk H
 clear H
 go_enter Tryz.func103, Tryz.ntmps103
 go_wp2
 go_loopg [3, 10] k (fun kq v3 v10 w' => ∃ (x3_1 : Int) (x10_1 : Int), v3 = .int .u64 x3_1 ∧ v10 = .int .i64 x10_1 ∧ Aside0 (shape_Check.l0 kq x3_1 l0 (l0.length : Int) x10_1 = some r) ∧ Aside0 (kq ≤ k) ∧ Drawn0 w w')
 case atStart => exact ⟨(14695981039346656037), (0), (by first | rfl | (simp; done) | (simp [*]; done)), (by first | rfl | (simp; done) | (simp [*]; done)), H', ⟨Nat.le_refl _⟩, by repeat (first | exact Drawn0.refl _ | apply Drawn0.step)⟩
 case round =>
  clear H'
  try clear c1
  obtain ⟨x3_1, x10_1, rfl, rfl, HA, HK1, ⟨m1, rfl⟩⟩ := hrel
  cases gk with
  | zero => exact absurd HA.out (by simp [shape_Check.l0])
  | succ k1 =>
   have H := HA.out
   clear HA
   simp only [shape_Check.l0] at H
   by_cases c2 : x10_1 < (l0.length : Int)
   ·rw [if_pos c2] at H
    have c2b0 : decide (x10_1 < (l0.length : Int)) = true := decide_eq_true c2
    clear c2
    by_cases c3 : 0 ≤ x10_1
    ·rw [if_pos c3] at H
     have c3b0 : decide (0 ≤ x10_1) = true := decide_eq_true c3
     clear c3
     by_cases c4 : x10_1 < (l0.length : Int)
     ·rw [if_pos c4] at H
      have c4b0 : decide (x10_1 < (l0.length : Int)) = true := decide_eq_true c4
      clear c4
      have H' := Aside0.mk H
      clear H
      have p408 : 0 ≤ (x10_1 : Int) := of_decide_eq_true (by first | (with_reducible assumption) | assumption)
      have q408 : x10_1 < (l0.length : Int) := of_decide_eq_true (by first | (with_reducible assumption) | assumption)
      obtain ⟨ad408, A408_0, c408_0, e408, hx408_0, hl408_0, hi408_0⟩ := at_L4 HR0.out x10_1 p408 q408
      cases e408
      have HR408_0 := Aside0.mk hi408_0
      have HC408_0 := Aside0.mk hl408_0
      clear hi408_0 hl408_0
      replace p408 := eq_true p408
      replace q408 := eq_true q408
      go_wp2
      go_loopg [3, 16] k1 (fun kq v3 v16 w' => ∃ (x3_2 : Int) (x16_2 : Int), v3 = .int .u64 x3_2 ∧ v16 = .int .i64 x16_2 ∧ Aside0 (shape_Check.l1 kq x3_2 l0 (l0.length : Int) x10_1 (rd_L4 l0 x10_1) ((rd_L4 l0 x10_1).length : Int) x16_2 = some r) ∧ Aside0 (kq ≤ k1) ∧ Drawn0 w w')
      case atStart => exact ⟨(x3_1), (0), (by first | rfl | (simp; done) | (simp [*]; done)), (by first | rfl | (simp; done) | (simp [*]; done)), H', ⟨Nat.le_refl _⟩, by repeat (first | exact Drawn0.refl _ | apply Drawn0.step)⟩
      case round =>
       clear H'
       try clear c1
       try clear c2
       try clear c2b0
       try clear p2
       try clear c3
       try clear c3b0
       try clear c4
       try clear c4b0
       try clear p4
       try clear q4
       try clear hx4
       try clear hx408_0
       try clear p408
       try clear q408
       obtain ⟨x3_2, x16_2, rfl, rfl, HA, HK2, ⟨m2, rfl⟩⟩ := hrel
       cases gk with
       | zero => exact absurd HA.out (by simp [shape_Check.l1])
       | succ k2 =>
        have H := HA.out
        clear HA
        simp only [shape_Check.l1] at H
        by_cases c5 : x16_2 < ((rd_L4 l0 x10_1).length : Int)
        ·rw [if_pos c5] at H
         have c5b0 : decide (x16_2 < ((rd_L4 l0 x10_1).length : Int)) = true := decide_eq_true c5
         clear c5
         by_cases c6 : 0 ≤ x16_2
         ·rw [if_pos c6] at H
          have c6b0 : decide (0 ≤ x16_2) = true := decide_eq_true c6
          clear c6
          by_cases c7 : x16_2 < ((rd_L4 l0 x10_1).length : Int)
          ·rw [if_pos c7] at H
           have c7b0 : decide (x16_2 < ((rd_L4 l0 x10_1).length : Int)) = true := decide_eq_true c7
           clear c7
           have H' := Aside0.mk H
           clear H
           have p409 : 0 ≤ (x16_2 : Int) := of_decide_eq_true (by first | (with_reducible assumption) | assumption)
           have q409 : x16_2 < ((rd_L4 l0 x10_1).length : Int) := of_decide_eq_true (by first | (with_reducible assumption) | assumption)
           obtain ⟨ad409, e409, hx409_0⟩ := Kd.at_int HR408_0.out x16_2 p409 q409
           cases e409
           replace p409 := eq_true p409
           replace q409 := eq_true q409
           go_wp2
           go_roundg k2
           case measure => have := HK1.out; have := HK2.out; omega
           case rel => exact ⟨(IntKind.u64.wrap ((Go.bits .xor .u64 x3_2 (IntKind.u64.wrap (rd (rd_L4 l0 x10_1) x16_2))) * 1099511628211)), (wrap64 (x16_2 + 1)), (by first | rfl | (simp; done) | (simp [*]; done)), (by first | rfl | (simp; done) | (simp [*]; done)), H', ⟨by have := HK1.out; have := HK2.out; omega⟩, by repeat (first | exact Drawn0.refl _ | apply Drawn0.step)⟩
          ·rw [if_neg c7] at H
           exact absurd H (by simp)
         ·rw [if_neg c6] at H
          exact absurd H (by simp)
        ·rw [if_neg c5] at H
         have c5b0 : decide (x16_2 < ((rd_L4 l0 x10_1).length : Int)) = false := decide_eq_false c5
         clear c5
         have H' := Aside0.mk H
         clear H
         go_wp2
         go_roundg k2
         case measure => have := HK1.out; have := HK2.out; omega
         case rel => exact ⟨(x3_2), (wrap64 (x10_1 + 1)), (by first | rfl | (simp; done) | (simp [*]; done)), (by first | rfl | (simp; done) | (simp [*]; done)), H', ⟨by have := HK1.out; have := HK2.out; omega⟩, by repeat (first | exact Drawn0.refl _ | apply Drawn0.step)⟩
     ·rw [if_neg c4] at H
      exact absurd H (by simp)
    ·rw [if_neg c3] at H
     exact absurd H (by simp)
   ·rw [if_neg c2] at H
    have c2b0 : decide (x10_1 < (l0.length : Int)) = false := decide_eq_false c2
    clear c2
    obtain rfl := Option.some.inj H
    go_wp2
    go_ret
    exact ⟨by first | rfl | (simp; done) | (simp [*]; done), by repeat (first | exact Drawn0.refl _ | apply Drawn0.step)⟩
def shape_Seal.f (k : Nat) (l0 : List Int) : Option (List Int × Int) := if (l0.length : Int) > 1048576 then (some (([] : List Int), 3)) else ((shape_Blob.f ([] : List Int) l0).bind fun t410 => ((shape_Check.f k (([l0] : List (List Int)))).bind fun t416 => ((shape_eight.f t416).bind fun t417 => (if t410.length + t417.length < 140737488355328 then (some ((t410 ++ t417), 0)) else (none)))))
set_option maxHeartbeats 8000000 in
set_option maxRecDepth 100000 in
theorem shape_Seal.calls (k : Nat) (P0_ : Nat → Prop) (A0 : Option Addr) (c0 : Nat) (l0 : List Int) (r1 : List Int) (r2 : Int) (w : World) (hs0 : Kd.V (Kd.int .u8) 5 w w.heap.size (fun k_ => P0_ k_) (.slice A0 l0.length c0) l0) (h : shape_Seal.f k l0 = some (r1, r2)) :
  Calls Tryz.prog 51 #[.slice A0 l0.length c0] w fun e w' => ∃ v0_ : Value, e = .returned (.tuple #[v0_, .int .i64 r2]) ∧ Kd.R (Kd.int .u8) 5 w' w.heap.size (fun k_ => (w.heap.size ≤ k_)) v0_ r1 ∧ Below w.heap.size w w' := by
 have HO0 := Aside0.mk (show Kd.V (Kd.int .u8) 5 w w.heap.size (fun k_ => (P0_ k_ ∨ w.heap.size ≤ k_)) (.slice A0 l0.length c0) l0 from Kd.V_mono hs0 (fun k_ hk => .inl hk))
 have HB := Aside0.mk (Below.refl w.heap.size w)
 have H : (if (l0.length : Int) > 1048576 then (some (([] : List Int), 3)) else ((shape_Blob.f ([] : List Int) l0).bind fun t410 => ((shape_Check.f k (([l0] : List (List Int)))).bind fun t416 => ((shape_eight.f t416).bind fun t417 => (if t410.length + t417.length < 140737488355328 then (some ((t410 ++ t417), 0)) else (none)))))) = some (r1, r2) := h
 clear h
 by_cases c2 : (l0.length : Int) > 1048576
 ·rw [if_pos c2] at H
  have c2b0 : decide (1048576 < (l0.length : Int)) = true := decide_eq_true c2
  have c2b1 : decide (1048576 < l0.length) = true := decide_eq_true (by omega)
  clear c2
  simp only [Option.some.injEq, Prod.mk.injEq] at H
  obtain ⟨rfl, rfl⟩ := H
  go_enter Tryz.func51, Tryz.ntmps51
  go_wp2
  go_ret2
  exact ⟨_, by first | rfl | (simp [errW_none, errW_some] <;> rfl) | (simp [*, errW_none, errW_some] <;> rfl), by first | exact Kd.R_nil _ _ _ _ _ | exact Kd.N_nil _ _ _ _ _ | exact Kd.V_nil _ _ _ _ _ | exact Kd.Q_nil _ _ _ _ _ | exact Kd.S_nil _ _ _ _ _, stB HB.out⟩
 ·rw [if_neg c2] at H
  have c2b0 : decide (1048576 < (l0.length : Int)) = false := decide_eq_false c2
  have c2b1 : decide (1048576 < l0.length) = false := decide_eq_false (by omega)
  clear c2
  replace H := Option.bind_eq_some_iff.mp H
  obtain ⟨t410, A30, H⟩ := H
  replace H : ((shape_Check.f k (([l0] : List (List Int)))).bind fun t416 => ((shape_eight.f t416).bind fun t417 => (if t410.length + t417.length < 140737488355328 then (some ((t410 ++ t417), 0)) else (none)))) = some (r1, r2) := H
  have A3 := Aside0.mk A30
  clear A30
  obtain ⟨y413, hy413⟩ : ∃ y_ : List (List Int), y_ = (([l0] : List (List Int))) := ⟨_, rfl⟩
  replace H : ((shape_Check.f k y413).bind fun t416 => ((shape_eight.f t416).bind fun t417 => (if t410.length + t417.length < 140737488355328 then (some ((t410 ++ t417), 0)) else (none)))) = some (r1, r2) := by first | (rw [hy413]; with_reducible exact H) | (have H2_ := (Option.bind_some _ _).symm.trans H; rw [hy413]; with_reducible exact H2_) | (have H2_ := (Option.bind_some _ _).symm.trans H; with_reducible exact H2_) | with_reducible exact H | (rw [hy413]; exact H) | exact H
  have Ny413 := Aside0.mk hy413
  clear hy413
  replace H := Option.bind_eq_some_iff.mp H
  obtain ⟨t416, A40, H⟩ := H
  replace H : ((shape_eight.f t416).bind fun t417 => (if t410.length + t417.length < 140737488355328 then (some ((t410 ++ t417), 0)) else (none))) = some (r1, r2) := H
  have A4 := Aside0.mk A40
  clear A40
  replace H := Option.bind_eq_some_iff.mp H
  obtain ⟨t417, A50, H⟩ := H
  replace H : (if t410.length + t417.length < 140737488355328 then (some ((t410 ++ t417), 0)) else (none)) = some (r1, r2) := H
  have A5 := Aside0.mk A50
  clear A50
  by_cases c6 : t410.length + t417.length < 140737488355328
  ·rw [if_pos c6] at H
   have LMc6 := Aside0.mk c6
   clear c6
   obtain ⟨y420, hy420⟩ : ∃ y_ : List Int, y_ = (t410 ++ t417) := ⟨_, rfl⟩
   replace H : (some (y420, 0)) = some (r1, r2) := by first | (rw [hy420]; with_reducible exact H) | (have H2_ := (Option.bind_some _ _).symm.trans H; rw [hy420]; with_reducible exact H2_) | (have H2_ := (Option.bind_some _ _).symm.trans H; with_reducible exact H2_) | with_reducible exact H | (rw [hy420]; exact H) | exact H
   have Ny420 := Aside0.mk hy420
   clear hy420
   simp only [Option.some.injEq, Prod.mk.injEq] at H
   obtain ⟨rfl, rfl⟩ := H
   go_enter Tryz.func51, Tryz.ntmps51
   go_wp2_with (first | ((with_reducible refine gate_callee (f := 101) rfl ?_); refine goesL_ (some 8) rfl rfl Tryz.func101 (by kernel_rfl) rfl #[.slice none 0 0, .slice A0 l0.length c0] rfl (by (try simp only [List.map_toArray, List.map_cons, List.map_nil]); first | done | rfl | (simp only [List.length_drop, List.length_take]; rfl)) ?_; (refine (shape_Blob.calls _ _ ([] : List Int) _ _ l0 t410 _ ?side1 ?side2 ?side3 ?side4 A3.out).mono ?_); (case side1 => exact Kd.C_nil _ _); (case side2 => exact Nat.le_refl _); (case side3 => exact stC ((Kd.V_reads' HO0.out).2.2)); (case side4 => exact (Kd.V_reads' HO0.out).2.1); rintro e w7 ⟨v411, rfl, ho0, hb⟩; refine ⟨_, rfl, ?_⟩; have n0_ := Aside0.mk (Kd.V_elder' (stV HO0.out) (Kd.R_base ho0) hb); have n1_ := Aside0.mk (Kd.R_lower (Kd.R_newM (M := fun k_ => (w.heap.size ≤ k_)) ho0 (below_size (stB HB.out)) (fun k_ h_ => h_)) (below_size (stB HB.out))); have n2_ := Aside0.mk (below_step (stB HB.out) hb); clear HO0; clear HB; have HO0 := n0_; have HO412 := n1_; have HB := n2_; clear n0_ n1_ n2_; (try clear hb); (try clear hb2); (try clear hk); (try clear hi); (try clear ho0)) | ((with_reducible refine gate_dst (N := 10) rfl ?_); refine Kd.N_lit (Kd.slice 5 (Kd.int .u8)) _ 23 ?hg (N' := 10) ?hd (xs := ([l0] : List (List Int))) (inner := [.slice A0 l0.length c0]) (ok := (fun k_ => (P0_ k_ ∨ w.heap.size ≤ k_) ∧ some k_ ≠ (v411 : Value).ownBlock)) (okp := (fun k_ => (P0_ k_ ∨ w.heap.size ≤ k_) ∧ some k_ ≠ (v411 : Value).ownBlock)) ?hr ?hp (fun _ hk => hk) ((show ∀ k_, w7.heap.size ≤ k_ → (fun k_ => (P0_ k_ ∨ w.heap.size ≤ k_) ∧ some k_ ≠ (v411 : Value).ownBlock) k_ from fun k_ hk => ⟨(.inr (Nat.le_trans (below_size (stB HB.out)) hk)), Kd.fresh' (Kd.R_lt (stR HO412.out)) k_ hk⟩) _ (Nat.le_refl _)) (Below.refl _ _) (Nat.le_refl _) (by simp) ?_; (case hd => rfl); (case hg => rfl); (case hr => first | (go_simp; done) | (go_simp; rfl)); (case hp => exact (Reps.one (show Kd.FK (Kd.slice 5 (Kd.int .u8)) _ _ l0 [.slice A0 l0.length c0] from (Kd.FK_slice_mk (Kd.V_reads' (Kd.V_mono (ok' := (fun k_ => (P0_ k_ ∨ w.heap.size ≤ k_) ∧ some k_ ≠ (v411 : Value).ownBlock)) (HO0.out) (fun k_ hk => ⟨hk.1, hk.2⟩))).2.1 (Kd.V_F (Kd.V_mono (ok' := (fun k_ => (P0_ k_ ∨ w.heap.size ≤ k_) ∧ some k_ ≠ (v411 : Value).ownBlock)) (HO0.out) (fun k_ hk => ⟨hk.1, hk.2⟩))))) (Reps.none _ _))); intro v414 w8 ho9 hb hg_ hnew_; clear hg_ hnew_; (first | rw [← Ny413.out] at ho9 | (simp only [Int.reduceToNat] at ho9; rw [← Ny413.out] at ho9)); have n0_ := Aside0.mk (Kd.V_elder' (stV HO0.out) (Kd.N_base ho9) hb); have n1_ := Aside0.mk (Kd.R_below (stR HO412.out) hb); have n2_ := Aside0.mk (Kd.N_lower ho9 (below_size (stB HB.out))); have n3_ := Aside0.mk (below_step (stB HB.out) hb); clear HO0; clear HO412; clear HB; have HO0 := n0_; have HO412 := n1_; have HO415 := n2_; have HB := n3_; clear n0_ n1_ n2_ n3_; clear hb ho9; obtain ⟨Ao10, co10, eo10⟩ := Kd.N_slice HO415.out; subst eo10) | ((with_reducible refine gate_callee (f := 103) rfl ?_); refine goesL_ (some 11) rfl rfl Tryz.func103 (by kernel_rfl) rfl #[.slice Ao10 y413.length co10] rfl (by (try simp only [List.map_toArray, List.map_cons, List.map_nil]); first | done | rfl | (simp only [List.length_drop, List.length_take]; rfl)) ?_; (with_reducible refine (shape_Check.calls k _ _ y413 t416 _ ?side1 ?side2 A4.out).mono ?_); (case side1 => exact stC ((Kd.N_reads' HO415.out).2.2)); (case side2 => exact (Kd.N_reads' HO415.out).2.1); rintro e w' ⟨rfl, ⟨nd, rfl⟩⟩; refine ⟨_, rfl, ?_⟩) | ((with_reducible refine gate_callee (f := 102) rfl ?_); refine goesL_ (some 12) rfl rfl Tryz.func102 (by kernel_rfl) rfl #[.int .u64 t416] rfl (by (try simp only [List.map_toArray, List.map_cons, List.map_nil]); first | done | rfl | (simp only [List.length_drop, List.length_take]; rfl)) ?_; (with_reducible refine (shape_eight.calls t416 t417 _ A5.out).mono ?_); rintro e w11 ⟨v418, rfl, ho0, hb⟩; refine ⟨_, rfl, ?_⟩; have n0_ := Aside0.mk (Kd.V_elder' (stV HO0.out) (Kd.R_base ho0) hb); have n1_ := Aside0.mk (Kd.R_elder' (stR HO412.out) (Kd.R_base ho0) hb); have n2_ := Aside0.mk (Kd.N_elder' (stN HO415.out) (Kd.R_base ho0) hb); have n3_ := Aside0.mk (Kd.R_lower (Kd.R_new' (Kd.R_newM (M := fun k_ => (w.heap.size ≤ k_)) ho0 (below_size (stB HB.out)) (fun k_ h_ => h_)) (Kd.R_lt (stR HO412.out))) (below_size (stB HB.out))); have n4_ := Aside0.mk (below_step (stB HB.out) hb); clear HO0; clear HO412; clear HO415; clear HB; have HO0 := n0_; have HO412 := n1_; have HO415 := n2_; have HO419 := n3_; have HB := n4_; clear n0_ n1_ n2_ n3_ n4_; (try clear hb); (try clear hb2); (try clear hk); (try clear hi); (try clear ho0); obtain ⟨Ao13, co13, eo13⟩ := Kd.R_slice HO419.out; subst eo13) | ((with_reducible refine gate_builtin (b := .append) (xs := #[.tmp 8, .tmp 12]) rfl ?_); at_builtin; refine Kd.R_append_rows (Kd.int .u8) (w0 := w) w.heap.size rfl (.tmp 8) (.tmp 12) 23 5 (.int .u8 0) 1 rfl Tryz.underlying23 info5 rfl (by decide) (by omega) v411 t410 t417 _ _ _ (fun k_ => (w.heap.size ≤ k_) ∧ some k_ ≠ (.slice Ao13 t417.length co13 : Value).ownBlock) (fun _ => False) rfl rfl ?aO ?aR (fun _ _ h => h) (fun _ h => h.elim) ?aF ?aB ?aS ?aL ?_; (case aR => exact stC ((Kd.R_reads' HO419.out).2.2)); (case aB => exact (stB HB.out)); (case aF => exact (fun k_ hk => ⟨(Nat.le_trans (below_size (stB HB.out)) hk), Kd.fresh' (Kd.R_lt (stR HO419.out)) k_ hk⟩)); (case aO => exact (by (with_reducible repeat (first|apply Kd.R_alloc | apply Kd.R_drewN | apply Kd.R_drew)); exact Kd.R_mono HO412.out (fun _ hk => ⟨hk.1.1, hk.2⟩))); (case aS => exact (below_size (stB HB.out))); (case aL => have := LMc6.out; omega); intro v421 w12 ho hb hg hat; rw [← Ny420.out] at ho; have n0_ := Aside0.mk (Kd.V_afterv (ok := (fun k_ => (P0_ k_ ∨ w.heap.size ≤ k_) ∧ some k_ ≠ (.slice Ao10 y413.length co10 : Value).ownBlock ∧ some k_ ≠ (.slice Ao13 t417.length co13 : Value).ownBlock)) (by (with_reducible repeat (first|apply Kd.V_alloc | apply Kd.V_drewN | apply Kd.V_drew)); exact Kd.V_mono HO0.out (fun _ hk => ⟨⟨hk.1.1.1, ⟨hk.1.2, hk.2⟩⟩, hk.1.1.2⟩)) hg hat); have n1_ := Aside0.mk (Kd.N_afterv (ok := (fun k_ => (P0_ k_ ∨ w.heap.size ≤ k_) ∧ some k_ ≠ (.slice Ao13 t417.length co13 : Value).ownBlock)) (by (with_reducible repeat (first|apply Kd.N_alloc | apply Kd.N_drewN | apply Kd.N_drew)); exact Kd.N_mono HO415.out (fun _ hk => ⟨⟨hk.1.1, hk.2⟩, hk.1.2⟩)) hg hat); have n2_ := Aside0.mk (Kd.R_after (ok := (fun k_ => (w.heap.size ≤ k_))) (by (with_reducible repeat (first|apply Kd.R_alloc | apply Kd.R_drewN | apply Kd.R_drew)); exact Kd.R_mono HO419.out (fun _ hk => ⟨hk.1.1, hk.2⟩)) hg hat); have n3_ := Aside0.mk (hb); have n4_ := Aside0.mk (ho); clear HO0; clear HO415; clear HO419; clear HB; clear HO412; have HO0 := n0_; have HO415 := n1_; have HO419 := n2_; have HB := n3_; have HO422 := n4_; clear n0_ n1_ n2_ n3_ n4_; clear ho hb hg hat))
   go_ret2
   exact ⟨_, by first | rfl | (simp [errW_none, errW_some] <;> rfl) | (simp [*, errW_none, errW_some] <;> rfl), by (with_reducible repeat (first|apply Kd.R_alloc | apply Kd.R_drewN | apply Kd.R_drew)); exact Kd.R_mono HO422.out (fun _ hk => hk.1), stB HB.out⟩
  ·rw [if_neg c6] at H
   exact absurd H (by simp)
end Go.Proofs.YtgiefblcckikeaaGreat.G
end

section
-- Written by a program of this session's (wip/gprint.py over the kit's printer).
namespace Go.Proofs.YtgiefblcckikeaaGreat.G
open Go.RowKit Go.Proofs.YtgiefblcckikeaaGreatW.PrintWords Go.Proofs.YtgiefblcckikeaaGreatW.PrintLast Go.Proofs.YtgiefblcckikeaaGreatW.PrintMore
attribute [local go_sem] max2_int min2_int max_two min_two max_three min_three max_four min_four   -- for this text's walks alone
end Go.Proofs.YtgiefblcckikeaaGreat.G
end

section
-- Written by a program of this session's (wip/gprint.py over the kit's printer).
namespace Go.Proofs.YtgiefblcckikeaaGreat.G
open Go.RowKit Go.Proofs.YtgiefblcckikeaaGreatW.PrintWords Go.Proofs.YtgiefblcckikeaaGreatW.PrintLast Go.Proofs.YtgiefblcckikeaaGreatW.PrintMore
attribute [local go_sem] max2_int min2_int max_two min_two max_three min_three max_four min_four   -- for this text's walks alone
end Go.Proofs.YtgiefblcckikeaaGreat.G
end

section
/- An entry's and a message's form (the reference's) are entB, msgB. -/
namespace Go.Proofs.YtgiefblcckikeaaGreat.M
open Go.RowKit Go.Proofs.YtgiefblcckikeaaGreatW.PrintWords Go.Proofs.YtgiefblcckikeaaGreatW.PrintLast Go.Proofs.YtgiefblcckikeaaGreatW.PrintMore Go.Proofs.YtgiefblcckikeaaGreat.G
end Go.Proofs.YtgiefblcckikeaaGreat.M
end

section
/- Seals, in plain Lean: what both Seals write (printed by genseal04.py out of law01's rows). -/
namespace Go.Proofs.YtgiefblcckikeaaGreat.M
open Go.RowKit Go.Proofs.YtgiefblcckikeaaGreatW.PrintWords Go.Proofs.YtgiefblcckikeaaGreatW.PrintLast Go.Proofs.YtgiefblcckikeaaGreatW.PrintMore Go.Proofs.YtgiefblcckikeaaGreat.G
def chkFrom (h : Int) (l : List Int) : Int := l.foldl (fun h c => IntKind.u64.wrap ((Go.bits .xor .u64 h (IntKind.u64.wrap c)) * 1099511628211)) h
def chk (l : List Int) : Int := chkFrom 14695981039346656037 l
theorem chkFrom_cons (h c : Int) (l : List Int) : chkFrom h (c :: l) = chkFrom (IntKind.u64.wrap ((Go.bits .xor .u64 h (IntKind.u64.wrap c)) * 1099511628211)) l := rfl
theorem chkFrom_append (h : Int) (l m : List Int) : chkFrom h (l ++ m) = chkFrom (chkFrom h l) m := List.foldl_append ..
theorem check_l1 (d : Nat) : ∀ (k : Nat) (h : Int) (L : List (List Int)) (n i : Int) (x : List Int) (j : Nat), x.length - j = d → j ≤ x.length → (x.length : Int) ≤ 140737488355328 → d < k →
  shape_Check.l1 k h L n i x (x.length : Int) (j : Int) = shape_Check.l0 (k - d - 1) (chkFrom h (x.drop j)) L n (wrap64 (i + 1)) := by
 induction d with
 | zero =>
  intro k h L n i x j hd hj hx hk
  obtain ⟨k, rfl⟩ : ∃ m, k = m + 1 := ⟨k - 1, by omega⟩
  simp only [shape_Check.l1]
  rw [if_neg (by omega), List.drop_eq_nil_of_le (by omega)]
  rfl
 | succ d ih =>
  intro k h L n i x j hd hj hx hk
  obtain ⟨k, rfl⟩ : ∃ m, k = m + 1 := ⟨k - 1, by omega⟩
  have hlt : j < x.length := by omega
  simp only [shape_Check.l1]
  rw [if_pos (by omega), if_pos (by omega), if_pos (by omega)]
  have hw : wrap64 ((j : Int) + 1) = ((j + 1 : Nat) : Int) := by unfold wrap64; omega
  rw [hw, ih k _ L n i x (j + 1) (by omega) (by omega) hx (by omega), List.drop_eq_getElem_cons hlt, chkFrom_cons]
  have hr : rd x (j : Int) = x[j] := by simp [rd, List.getD_eq_getElem?_getD, List.getElem?_eq_getElem hlt]
  rw [hr]
  congr 1
  omega
theorem check_l0 (L : List (List Int)) (hL : (L.length : Int) ≤ 140737488355328) (hx : ∀ x ∈ L, (x.length : Int) ≤ 140737488355328) (d : Nat) : ∀ (i : Nat) (h : Int), L.length - i = d → i ≤ L.length →
  ∃ K, ∀ k, K ≤ k → shape_Check.l0 k h L (L.length : Int) (i : Int) = some (chkFrom h (L.drop i).flatten) := by
 induction d with
 | zero =>
  intro i h hd hi
  refine ⟨1, fun k hk => ?_⟩
  obtain ⟨k, rfl⟩ : ∃ m, k = m + 1 := ⟨k - 1, by omega⟩
  simp only [shape_Check.l0]
  rw [if_neg (by omega), List.drop_eq_nil_of_le (by omega)]
  rfl
 | succ d ih =>
  intro i h hd hi
  have hlt : i < L.length := by omega
  have hr : rd_L4 L (i : Int) = L[i] := by simp [rd_L4, List.getD_eq_getElem?_getD, List.getElem?_eq_getElem hlt]
  obtain ⟨K, hK⟩ := ih (i + 1) (chkFrom h L[i]) (by omega) (by omega)
  refine ⟨K + L[i].length + 2, fun k hk => ?_⟩
  obtain ⟨k, rfl⟩ : ∃ m, k = m + 1 := ⟨k - 1, by omega⟩
  simp only [shape_Check.l0]
  rw [if_pos (by omega), if_pos (by omega), if_pos (by omega), hr]
  have h1 := check_l1 L[i].length k h L (L.length : Int) (i : Int) L[i] 0 (by omega) (by omega) (hx _ (List.getElem_mem hlt)) (by omega)
  rw [show ((0 : Nat) : Int) = 0 from rfl] at h1
  rw [h1]
  have hw : wrap64 ((i : Int) + 1) = ((i + 1 : Nat) : Int) := by unfold wrap64; omega
  rw [hw, List.drop_zero, hK _ (by omega), List.drop_eq_getElem_cons hlt, List.flatten_cons, chkFrom_append]
theorem chk_f (L : List (List Int)) (hL : (L.length : Int) ≤ 140737488355328) (hx : ∀ x ∈ L, (x.length : Int) ≤ 140737488355328) : ∃ K, ∀ k, K ≤ k → shape_Check.f k L = some (chk L.flatten) := by
 obtain ⟨K, hK⟩ := check_l0 L hL hx L.length 0 14695981039346656037 (by omega) (by omega)
 exact ⟨K, fun k hk => by unfold shape_Check.f; exact hK k hk⟩
theorem chkFrom_range (h : Int) (l : List Int) (hh : 0 ≤ h ∧ h ≤ 18446744073709551615) : 0 ≤ chkFrom h l ∧ chkFrom h l ≤ 18446744073709551615 := by
 induction l generalizing h with
 | nil => exact hh
 | cons c l ih => rw [chkFrom_cons]; exact ih _ (by rw [IntKind.wrap_u64]; omega)
theorem chk_range (l : List Int) : 0 ≤ chk l ∧ chk l ≤ 18446744073709551615 := chkFrom_range _ l (by decide)
def sealB (l : List Int) : List Int := eightB (chk l).toNat
theorem sealB_len (l : List Int) : (sealB l).length = 8 := by
 have h := chk_range l
 have := lowB_len (chk l).toNat 8 (by omega)
 unfold sealB eightB pad8
 rw [List.length_append, List.length_replicate]
 omega
def blobB (l d : List Int) : List Int := l ++ numB (d.length : Int) ++ d
theorem isI64_len {d : List Int} (h : d.length < 140737488355328) : isI64 (d.length : Int) := by unfold isI64; omega
theorem blob_f (l d : List Int) (h : l.length + d.length + 9 < 140737488355328) : shape_Blob.f l d = some (blobB l d) := by
 have hi := isI64_len (d := d) (by omega)
 have hn := numB_len hi
 unfold shape_Blob.f shape_Num.f
 rw [if_pos ⟨by simp [okI]; exact hi, by simp; omega⟩, Option.bind_some]
 simp only [numsB, List.flatMap_cons, List.flatMap_nil, List.append_nil]
 rw [if_pos (by simp only [List.length_append]; omega)]
 rfl
def sealedB (l : List Int) : List Int := blobB [] l ++ sealB l
theorem blob_len (l : List Int) : (blobB [] l).length = (numB (l.length : Int)).length + l.length := by unfold blobB; simp
theorem sealed_len (l : List Int) : (sealedB l).length = (numB (l.length : Int)).length + l.length + 8 := by unfold sealedB; rw [List.length_append, blob_len, sealB_len]
theorem shape_seal (l : List Int) (hl : l.length ≤ 1048576) : ∃ K, ∀ k, K ≤ k → shape_Seal.f k l = some (sealedB l, 0) := by
 obtain ⟨K, hK⟩ := chk_f [l] (by simp) (by simp; omega)
 rw [show ([l] : List (List Int)).flatten = l by simp] at hK
 refine ⟨K, fun k hk => ?_⟩
 have hb := blob_f [] l (by simp; omega)
 have hc := hK k hk
 have he : shape_eight.f (chk l) = some (sealB l) := by unfold shape_eight.f sealB; rw [if_pos (chk_range _)]
 have hn := numB_len (isI64_len (d := l) (by omega))
 have hx := sealB_len l
 have hy := blob_len l
 unfold shape_Seal.f
 rw [if_neg (by omega), hb, Option.bind_some, hc, Option.bind_some, he, Option.bind_some, if_pos (by omega)]
 rfl
end Go.Proofs.YtgiefblcckikeaaGreat.M
end

section
/- slices.Equal of bytes, shape.Unseal (printed by genuns04.py out of law01's rows). -/
namespace Go.Proofs.YtgiefblcckikeaaGreat.M
open Go.RowKit Go.Proofs.YtgiefblcckikeaaGreatW.PrintWords Go.Proofs.YtgiefblcckikeaaGreatW.PrintLast Go.Proofs.YtgiefblcckikeaaGreatW.PrintMore Go.Proofs.YtgiefblcckikeaaGreat.G
set_option maxHeartbeats 1000000 in
theorem equal_calls (A : Option Addr) (c0 : Nat) (l0 : List Int) (B : Option Addr) (c1 : Nat) (l1 : List Int) (w : World) (hr0 : Kd.C (Kd.int .u8) w A l0.length l0) (hr1 : Kd.C (Kd.int .u8) w B l1.length l1) :
  Calls Tryz.prog 124 #[.slice A l0.length c0, .slice B l1.length c1] w fun e w' => e = .returned (.bool (decide (l0 = l1))) ∧ Drawn0 w w' := by
 have HR0 := Aside0.mk hr0
 have HR1 := Aside0.mk hr1
 have hm0 : (l0.length : Int) ≤ 9223372036854775807 := by have := Kd.C_max hr0; omega
 clear hr0 hr1
 by_cases hl : l0.length = l1.length
 ·have hl1 : ((l0.length : Int) != (l1.length : Int)) = false := by rw [bne_eq_false_iff_eq]; omega
  have HL := Aside0.mk hl
  clear hl
  go_enter Tryz.func124, Tryz.ntmps124
  go_wp2
  go_loopw [5, 13] (fun _ i wr => ∃ j : Nat, j ≤ l0.length ∧ i = .int .i64 (j : Int) ∧ Aside0 (l0.take j = l1.take j) ∧ Aside0 (Drawn0 w wr)) (fun _ i _ => l0.length - (intOf i).toNat)
  case atStart => exact ⟨0, Nat.zero_le _, rfl, ⟨rfl⟩, ⟨Drawn0.refl _⟩⟩
  case round =>
   obtain ⟨j, hj, rfl, HE, HD⟩ := hrel
   by_cases hlt : j < l0.length
   ·have hlt0 : (j : Int) < (l0.length : Int) := by omega
    have hlt1 : (j : Int) < (l1.length : Int) := by have := HL.out; omega
    have hj0 : (0 : Int) ≤ (j : Int) := by omega
    obtain ⟨ad0, hA, hx0⟩ := Kd.at_int (Kd.C_below HR0.out HD.out.below) (j : Int) hj0 hlt0
    obtain ⟨ad1, hB, hx1⟩ := Kd.at_int (Kd.C_below HR1.out HD.out.below) (j : Int) hj0 hlt1
    subst hA hB
    rw [Int.toNat_natCast] at hx0 hx1
    have HT0 := Aside0.mk (take_snoc_int l0 j hlt)
    have HT1 := Aside0.mk (take_snoc_int l1 j (by omega))
    by_cases he : rd l0 j = rd l1 j
    ·have he1 : (rd l0 j != rd l1 j) = false := bne_eq_false_iff_eq.2 he
     have HEE := Aside0.mk he
     clear he
     go_wp2
     go_quiet (fail)
     go_wp2
     go_roundw
     case rel => exact ⟨j + 1, by omega, by go_num, ⟨by rw [HT0.out, HT1.out, HE.out, HEE.out]⟩, ⟨HD.out.step _⟩⟩
     case measure => simp [intOf]; omega
    ·have he1 : (rd l0 j != rd l1 j) = true := bne_iff_ne.2 he
     have HF := Aside0.mk (show decide (l0 = l1) = false from decide_eq_false (fun e => he (by rw [e])))
     clear he
     go_wp2
     go_quiet (fail)
     go_wp2
     go_ret
     exact ⟨by rw [HF.out]; rfl, HD.out.step _⟩
   ·obtain rfl : j = l0.length := by omega
    have HF := Aside0.mk (show decide (l0 = l1) = true from decide_eq_true (by
     have := HE.out
     rw [List.take_length] at this
     rw [this, HL.out, List.take_length]))
    clear hlt
    go_wp2
    go_ret
    exact ⟨by rw [HF.out]; rfl, HD.out⟩
 ·have hl1 : ((l0.length : Int) != (l1.length : Int)) = true := by rw [bne_iff_ne]; omega
  have HF := Aside0.mk (show decide (l0 = l1) = false from decide_eq_false (fun e => hl (by rw [e])))
  clear hl
  go_enter Tryz.func124, Tryz.ntmps124
  go_wp2
  go_ret
  exact ⟨by rw [HF.out]; rfl, Drawn0.refl _⟩
def tail8 (l : List Int) : List Int := (l.take (blHi l + 8).toNat).drop (blHi l).toNat
def unE (l : List Int) : Int := if ¬ blE l 1048576 8 = 0 then blE l 1048576 8 else if sealB (blD l) = tail8 l then 0 else 12
def takeSeal (l : List Int) : List Int × Int × Int := if unE l = 0 then (blD l, blHi l + 8, 0) else ([], 0, unE l)
theorem C_row1 {w : World} {A : Option Addr} {c : Nat} {l : List Int} (h : Kd.C (Kd.int .u8) w A l.length l) (hc : l.length ≤ c) (e : TypeId) :
  Kd.C (Kd.slice 5 (Kd.int .u8)) (w.alloc (.cells #[.slice A l.length c] e)) (some ⟨w.heap.size, 0, none⟩) 1 [l] := by
 refine ⟨rfl, by omega, fun _ => ⟨_, rfl, fun j p hj => ?_⟩⟩
 cases j with
 | zero =>
  simp at hj
  subst hj
  refine ⟨[.slice A l.length c], rfl, ⟨A, c, rfl, hc, Kd.C_alloc h _⟩, fun i u hu => ?_⟩
  cases i with
  | zero => simp at hu; subst hu; rw [add_plain]; simp
  | succ i => simp at hu
 | succ j => simp at hj
theorem tail8_length {l : List Int} (h : 0 ≤ blHi l) (h8 : blHi l + 8 ≤ (l.length : Int)) : (tail8 l).length = (blHi l + 8).toNat - (blHi l).toNat := by
 unfold tail8
 rw [List.length_drop, List.length_take]
 omega
theorem tail_form {A : Option Addr} {c : Nat} {l : List Int} {w : World} (hr : Kd.C (Kd.int .u8) w A l.length l) (hc : l.length ≤ c) (h : 0 ≤ blHi l) (h8 : blHi l + 8 ≤ (l.length : Int)) :
  ∃ At ct, Value.slice (if c = (blHi l).toNat then A else A.map (·.add ((blHi l).toNat * 1))) ((blHi l + 8).toNat - (blHi l).toNat) (c - (blHi l).toNat) = .slice At (tail8 l).length ct ∧ (tail8 l).length ≤ ct ∧ Kd.C (Kd.int .u8) w At (tail8 l).length (tail8 l) := by
 refine ⟨_, c - (blHi l).toNat, ?_, ?_, Kd.C_mid (c := c) hr (by omega : (blHi l).toNat ≤ (blHi l + 8).toNat) (by omega) hc⟩
 ·rw [tail8_length h h8]
  rfl
 ·rw [tail8_length h h8]; omega
set_option maxHeartbeats 2000000 in
theorem takeseal1 (A : Option Addr) (c : Nat) (l : List Int) (w : World) (hr : Kd.C (Kd.int .u8) w A l.length l) (hc : l.length ≤ c) (hb : okB l = true) (hlen : l.length < 140737488355328) (b : Nat) (hx : Boxes b A c l.length (.slice none 0 0) (.int .i64 0) w) (hbs : b + 3 ≤ w.heap.size) :
  Calls Tryz.prog 121 #[.pointer (some ⟨b, 0, none⟩), .pointer (some ⟨b + 1, 0, none⟩), .pointer (some ⟨b + 2, 0, none⟩)] w fun e W => Keep2 b w W ∧
   (∃ v, W.cell? ⟨b + 1, 0, none⟩ = some v ∧ W.cell? ⟨b + 2, 0, none⟩ = some (.int .i64 (takeSeal l).2.1) ∧ W.frozen? ⟨b + 1, 0, none⟩ = false ∧ W.frozen? ⟨b + 2, 0, none⟩ = false ∧ Own W w.heap.size v (takeSeal l).1) ∧
   ((e = .returned (.tuple #[]) ∧ unE l = 0) ∨ e = .panicked [{ v := wrongV (unE l), recovered := false }]) := by
 have hT := blob_any A c l 1048576 8 w hr hc hb (by decide) (by decide) hlen
 obtain ⟨hb0, hn0, hn1, hs0, hs1⟩ := hx
 by_cases he : blE l 1048576 8 = 0
 ·obtain ⟨g1, g2, g3, g4, g5, g6⟩ := blE_good he
  obtain ⟨A', c', hV, hc', hr'⟩ := blobV_form hr hc ⟨g6, g5, by omega⟩
  have hl' : (blD l).length < 140737488355328 := by rw [blD_length ⟨g6, g5, by omega⟩]; omega
  have HT := Lib.hid (hT.mono (R' := fun e w' => w = w' ∧ e = .returned (.tuple #[.slice A' (blD l).length c', .int .i64 (blHi l)])) (by
   rintro e w' ⟨rfl, ⟨_, rfl⟩ | ⟨h, _⟩⟩
   ·exact ⟨rfl, by rw [hV]⟩
   ·exact absurd he h))
  have HR := Aside0.mk hr'
  have HRL := Aside0.mk hr
  have HU := Aside0.mk (show unE l = if sealB (blD l) = tail8 l then 0 else 12 by unfold unE; rw [if_neg (by omega)])
  obtain ⟨hi, HHI⟩ : ∃ hi, Aside0 (blHi l = hi) := ⟨_, ⟨rfl⟩⟩
  rw [HHI.out] at g4 g5 HT
  obtain ⟨K', hK⟩ := chk_f [blD l] (by simp) (by simp; omega)
  have HK := Aside0.mk (hK K' (Nat.le_refl _))
  rw [show ([blD l] : List (List Int)).flatten = blD l by simp] at HK
  obtain ⟨i0, hi0, hz0, hz1, hz2⟩ := info_parts infoU8
  have hcut := cut_mid (P := Tryz.prog) 23 5 .i64 .i64 Tryz.underlying23 hi0 1 hz1 A l.length c hi (hi + 8) (by omega) (by omega) (by omega) hc
  obtain ⟨At, ct, hVt, hct, hrt⟩ := tail_form (A := A) (c := c) (l := l) (w := w) hr hc (by rw [HHI.out]; omega) (by rw [HHI.out]; omega)
  have HRT := Aside0.mk hrt
  rw [HHI.out] at hVt
  rw [hVt] at hcut
  have HEI := Aside0.mk (show shape_eight.f (chk (blD l)) = some (sealB (blD l)) by unfold shape_eight.f sealB; rw [if_pos (chk_range _)])
  have hbl : b < w.heap.size := by omega
  have hw8 : IntKind.i64.wrap (hi + 8) = hi + 8 := by rw [IntKind.wrap_i64]; omega
  clear he hV hr' g1 g2 g3 hr hT hK hi0 hz0 hz1 hz2 hVt hrt
  go_enter Tryz.func121, Tryz.ntmps121
  go_wp2_with (go_at_call 122; refine HT.out.mono ?_; rintro e w' ⟨rfl, rfl⟩)
  by_cases heq : sealB (blD l) = tail8 l
  ·have HEQ := Aside0.mk (show decide (sealB (blD l) = tail8 l) = true from decide_eq_true heq)
   clear heq
   go_region_held3 (fun w' => w'.cell? ⟨b, 0, none⟩ = some (.slice A l.length c)) (go_keep) (first
    | (go_at_call 103; refine (shape_Check.calls K' _ 1 [blD l] _ _ (Kd.C_drew (C_row1 HR.out hc' _)) (Nat.le_refl 1) HK.out).mono ?_; rintro e w1 ⟨rfl, hd⟩; have q1 : w1.cell? ⟨b, 0, none⟩ = some (.slice A l.length c) := (hd.below.cell (by simp; omega)).trans (by simp [go_sem, hb0, hbl]); have HB1 := Aside0.mk (show Below w.heap.size w w1 from (((Below.refl _ _).alloc (Nat.le_refl _) _).drew.trans (hd.below.mono (by simp)))); clear hd)
    | (go_at_call 102; refine (shape_eight.calls (chk (blD l)) (sealB (blD l)) _ HEI.out).mono ?_; rintro e w2 ⟨v, rfl, ho, hb2⟩; obtain ⟨Av, cv, rfl, hcv, hrv⟩ := Kd.R_reads ho; have HRV := Aside0.mk hrv; have q2 : w2.cell? ⟨b, 0, none⟩ = some (.slice A l.length c) := (hb2.cell (by have := HB1.out.size; simp; omega)).trans q1; have HB2 := Aside0.mk (below_step HB1.out hb2); clear hb2 ho hrv)
    | (go_at_call 124; refine (equal_calls Av cv (sealB (blD l)) At ct (tail8 l) _ HRV.out (Kd.C_below HRT.out HB2.out)).mono ?_; rintro e w3 ⟨rfl, hd3⟩; rw [HEQ.out]; have q3 : w3.cell? ⟨b, 0, none⟩ = some (.slice A l.length c) := (hd3.below.cell (by have := HB2.out.size; simp; omega)).trans q2; have HB3 := Aside0.mk (below_step HB2.out hd3.below); clear hd3)
    | (go_at_call 123; refine (give_no _ _).mono ?_; rintro e w' ⟨rfl, rfl⟩))
   have HN := Aside0.mk (show takeSeal l = (blD l, hi + 8, 0) by
    unfold takeSeal; rw [HU.out, if_pos (of_decide_eq_true HEQ.out), if_pos rfl, HHI.out])
   have HZ := Aside0.mk (show unE l = 0 by rw [HU.out, if_pos (of_decide_eq_true HEQ.out)])
   have kn0 : w3.cell? ⟨b + 1, 0, none⟩ = some (.slice none 0 0) := (HB3.out.cell (by simp; omega)).trans hn0
   have ks0 : w3.cell? ⟨b + 2, 0, none⟩ = some (.int .i64 0) := (HB3.out.cell (by simp; omega)).trans hs0
   have kn1 : w3.frozen? ⟨b + 1, 0, none⟩ = false := (HB3.out.frozen (by simp; omega)).trans hn1
   have ks1 : w3.frozen? ⟨b + 2, 0, none⟩ = false := (HB3.out.frozen (by simp; omega)).trans hs1
   clear hn0 hs0 hn1 hs1 q1 q2 hw8 hcut
   go_wp2_with fail
   refine (clone_calls A' c' (blD l) _ (Kd.C_below HR.out HB3.out) hc' hl').mono ?_
   rintro e w4 ⟨v4, rfl, ho4, hb4⟩
   obtain ⟨A4, c4, rfl⟩ := Own.form ho4
   have HO4 := Aside0.mk ho4
   have HB4 := Aside0.mk (below_step HB3.out hb4)
   have hsz3 := HB3.out.size
   have k1 : w4.cell? ⟨b + 1, 0, none⟩ = some (.slice none 0 0) := (hb4.cell (by simp; omega)).trans kn0
   have k2 : w4.cell? ⟨b + 2, 0, none⟩ = some (.int .i64 0) := (hb4.cell (by simp; omega)).trans ks0
   have k3 : w4.frozen? ⟨b + 1, 0, none⟩ = false := (hb4.frozen (by simp; omega)).trans kn1
   have k4 : w4.frozen? ⟨b + 2, 0, none⟩ = false := (hb4.frozen (by simp; omega)).trans ks1
   have hw8 : IntKind.i64.wrap (hi + 8) = hi + 8 := by rw [IntKind.wrap_i64]; omega
   clear ho4 hb4 kn0 ks0 kn1 ks1 q3
   go_wp2
   go_end0
   rw [HN.out]
   refine ⟨((Keep2.of_below HB4.out).set1 _).set2 _, ⟨.slice A4 (blD l).length c4, ?_, ?_, ?_, ?_, ?_⟩, .inl ⟨rfl, HZ.out⟩⟩
   ·rw [World.cell?_setCell_other _ _ _ _ (by simp)]; exact World.cell?_setCell_same' _ _ _ (by rw [k1]; rfl)
   ·exact World.cell?_setCell_same' _ _ _ (by rw [World.cell?_setCell_other _ _ _ _ (by simp), k2]; rfl)
   ·simp [k3]
   ·simp [k4]
   ·exact ((HO4.out.lower hsz3).set (p := ⟨b + 1, 0, none⟩) (by show b + 1 < _; omega) _).set (p := ⟨b + 2, 0, none⟩) (by show b + 2 < _; omega) _
  ·have HEQ := Aside0.mk (show decide (sealB (blD l) = tail8 l) = false from decide_eq_false heq)
   have HN := Aside0.mk (show takeSeal l = ([], 0, 12) by unfold takeSeal; rw [HU.out, if_neg heq, if_neg (by decide)])
   have HZ := Aside0.mk (show unE l = 12 by rw [HU.out, if_neg heq])
   clear heq
   refine start_ (n := 12) (S := fun w' => w'.cell? ⟨b, 0, none⟩ = some (.slice A l.length c)) (ds := []) #[false, false, false, false, false, false, false, false, false, false, false, false] (by kernel_rfl) rfl rfl (by simpa using hb0) (fun hHeld => ?_)
   refine pure_ (i := 0) (N := some 10) (v := ?_) (a' := ?_) #[true, false, false, false, false, false, false, false, false, false, false, false] rfl rfl (by kernel_rfl) (fun _ _ _ h => h) (Or.inl ⟨by rfl, ?_⟩) ?_ ?_
   rotate_left
   ·intro w'
    go_simp
    try with_reducible rfl
   rotate_left
   ·simp only [Act.put, sq1, sq2, sq3, i64_w, i32_w]
    rfl
   refine pure_ (i := 5) (N := some 15) (v := ?_) (a' := ?_) #[true, false, false, false, false, true, false, false, false, false, false, false] rfl rfl (by kernel_rfl) (fun _ _ _ h => h) (Or.inl ⟨by rfl, ?_⟩) ?_ ?_
   rotate_left
   ·intro w'
    go_simp
    try with_reducible rfl
   rotate_left
   ·simp only [Act.put, sq1, sq2, sq3, i64_w, i32_w]
    rfl
   refine pure_ (i := 6) (N := some 16) (v := ?_) (a' := ?_) #[true, false, false, false, false, true, true, false, false, false, false, false] rfl rfl (by kernel_rfl) (fun _ _ _ h => h) (Or.inl ⟨by rfl, ?_⟩) ?_ ?_
   rotate_left
   ·intro w'
    go_simp
    try with_reducible rfl
   rotate_left
   ·simp only [Act.put, sq1, sq2, sq3, i64_w, i32_w]
    rfl
   refine pure_ (i := 7) (N := some 17) (v := ?_) (a' := ?_) #[true, false, false, false, false, true, true, true, false, false, false, false] rfl rfl (by kernel_rfl) (fun _ _ _ h => h) (Or.inl ⟨by rfl, ?_⟩) ?_ ?_
   rotate_left
   ·intro w'
    go_simp
    try with_reducible rfl
   rotate_left
   ·simp only [Act.put, sq1, sq2, sq3, i64_w, i32_w]
    rfl
   refine take_ (i := 4) (N := some 14) (v := ?_) (a' := ?_) #[true, false, false, false, true, true, true, true, false, false, false, false] rfl rfl (by kernel_rfl) (fun _ _ _ h => h) (Or.inl ⟨by rfl, ?_⟩) hHeld ?_ ?_
   rotate_left
   ·intro w' hS
    go_simp
    try with_reducible rfl
   rotate_left
   ·simp only [Act.put, sq1, sq2, sq3, i64_w, i32_w]
    rfl
   refine pure_ (i := 8) (N := some 18) (v := ?_) (a' := ?_) #[true, false, false, false, true, true, true, true, true, false, false, false] rfl rfl (by kernel_rfl) (fun _ _ _ h => h) (Or.inl ⟨by rfl, ?_⟩) ?_ ?_
   rotate_left
   ·intro w'
    go_simp
    try with_reducible rfl
   rotate_left
   ·simp only [Act.put, sq1, sq2, sq3, i64_w, i32_w]
    rfl
   refine one_ (i := 1) (N := some 11) #[true, true, false, false, true, true, true, true, true, false, false, false] rfl rfl (by kernel_rfl) (by decide) (fun K hK => ?_)
   go_simp
   refine hK.out _ _ (by simpa [go_sem, hbl] using hHeld) (fun hHeld => ?_)
   refine one_ (i := 2) (N := some 12) #[true, true, true, false, true, true, true, true, true, false, false, false] rfl rfl (by kernel_rfl) (by decide) (fun K hK => ?_)
   go_simp
   refine (shape_Check.calls K' _ 1 [blD l] _ _ (C_row1 (Kd.C_drew HR.out) hc' _) (Nat.le_refl 1) HK.out).mono ?_
   rintro e w1 ⟨rfl, hd⟩
   have HB1 := Aside0.mk (show Below w.heap.size w w1 from (((Below.refl _ _).drew.alloc (Nat.le_refl _) _).trans (hd.below.mono (by simp))))
   refine hK.out _ _ ((hd.below.cell (by simp; omega)).trans hHeld) (fun hHeld => ?_)
   refine one_ (i := 3) (N := some 13) #[true, true, true, true, true, true, true, true, true, false, false, false] rfl rfl (by kernel_rfl) (by decide) (fun K hK => ?_)
   go_simp
   refine (shape_eight.calls (chk (blD l)) (sealB (blD l)) _ HEI.out).mono ?_
   rintro e w2 ⟨v, rfl, ho, hb2⟩
   obtain ⟨Av, cv, rfl, hcv, hrv⟩ := Kd.R_reads ho
   have HRV := Aside0.mk hrv
   have HB2 := Aside0.mk (below_step HB1.out hb2)
   refine hK.out _ _ ((hb2.cell (by have := HB1.out.size; simp; omega)).trans hHeld) (fun hHeld => ?_)
   refine one_ (i := 9) (N := some 19) #[true, true, true, true, true, true, true, true, true, true, false, false] rfl rfl (by kernel_rfl) (by decide) (fun K hK => ?_)
   go_simp
   refine (equal_calls Av cv (sealB (blD l)) At ct (tail8 l) _ HRV.out (Kd.C_below HRT.out HB2.out)).mono ?_
   rintro e w3 ⟨rfl, hd3⟩
   rw [HEQ.out]
   have HB3 := Aside0.mk (below_step HB2.out hd3.below)
   refine hK.out _ _ ((hd3.below.cell (by have := HB2.out.size; simp; omega)).trans hHeld) (fun hHeld => ?_)
   refine pure_ (i := 10) (N := some 20) (v := ?_) (a' := ?_) #[true, true, true, true, true, true, true, true, true, true, true, false] rfl rfl (by kernel_rfl) (fun _ _ _ h => h) (Or.inl ⟨by rfl, ?_⟩) ?_ ?_
   rotate_left
   ·intro w'
    go_simp
    try with_reducible rfl
   rotate_left
   ·simp only [Act.put, sq1, sq2, sq3, i64_w, i32_w]
    rfl
   refine one_ (i := 11) (N := some 21) #[true, true, true, true, true, true, true, true, true, true, true, true] rfl rfl (by kernel_rfl) (by decide) (fun K hK => ?_)
   go_simp
   refine (give_yes _ _).mono ?_
   rintro e w' ⟨rfl, rfl⟩
   all_goals
    have kn0 : w3.cell? ⟨b + 1, 0, none⟩ = some (.slice none 0 0) := (HB3.out.cell (by simp; omega)).trans hn0
    have ks0 : w3.cell? ⟨b + 2, 0, none⟩ = some (.int .i64 0) := (HB3.out.cell (by simp; omega)).trans hs0
    have kn1 : w3.frozen? ⟨b + 1, 0, none⟩ = false := (HB3.out.frozen (by simp; omega)).trans hn1
    have ks1 : w3.frozen? ⟨b + 2, 0, none⟩ = false := (HB3.out.frozen (by simp; omega)).trans hs1
    dsimp only
    go_wp2
    rw [HN.out, HZ.out]
    exact ⟨rfl, Keep2.of_below HB3.out, ⟨_, kn0, ks0, kn1, ks1, Own.nil _ _⟩, .inr rfl⟩
 ·have HN := Aside0.mk (show takeSeal l = ([], 0, blE l 1048576 8) by
   have hu : unE l = blE l 1048576 8 := by unfold unE; rw [if_pos he]
   unfold takeSeal; rw [hu, if_neg he])
  have HU := Aside0.mk (show unE l = blE l 1048576 8 by unfold unE; rw [if_pos he])
  have HT := Lib.hid (hT.mono (R' := fun e w' => w = w' ∧ e = .panicked [{ v := wrongV (blE l 1048576 8), recovered := false }]) (by
   rintro e w' ⟨rfl, ⟨h, _⟩ | ⟨_, rfl⟩⟩
   ·exact absurd h he
   ·exact ⟨rfl, rfl⟩))
  clear he hr hT
  obtain ⟨er, HER⟩ : ∃ er, Aside0 (blE l 1048576 8 = er) := ⟨_, ⟨rfl⟩⟩
  rw [HER.out] at HT HN HU
  rw [HU.out]
  go_enter Tryz.func121, Tryz.ntmps121
  go_wp2_with (go_at_call 122; refine HT.out.mono ?_; rintro e w' ⟨rfl, rfl⟩)
  rw [HN.out]
  exact ⟨rfl, Keep2.refl _ _, ⟨_, hn0, hs0, hn1, hs1, Own.nil _ _⟩, .inr rfl⟩
end Go.Proofs.YtgiefblcckikeaaGreat.M
namespace Go.Proofs.YtgiefblcckikeaaGreat.M
open Go.RowKit Go.Proofs.YtgiefblcckikeaaGreatW.PrintWords
theorem takeSeal_calls (A : Option Addr) (c : Nat) (l : List Int) (w : World) (hr : Kd.C (Kd.int .u8) w A l.length l) (hc : l.length ≤ c) (hb : okB l = true) (hlen : l.length < 140737488355328) :
  Calls Tryz.prog 59 #[.slice A l.length c] w fun e w' => ∃ v0_ : Value, e = .returned (.tuple #[v0_, .int .i64 (takeSeal l).2.1, .int .i64 (takeSeal l).2.2]) ∧ Own w' w.heap.size v0_ (takeSeal l).1 ∧ Below w.heap.size w w' := by
 have HR := Aside0.mk hr
 have HC := Aside0.mk hc
 have HB := Aside0.mk hb
 have HL := Aside0.mk hlen
 clear hr hc hb hlen
 have hmf : ∀ (fn : Fn) (first cap : Array Value) (w : World), (Instr.makeFunc fn first cap).run Tryz.prog w = .ok (.func fn first cap) w := fun _ _ _ _ => rfl
 go_enter Tryz.func59, Tryz.ntmps59
 go_wp2_with fail
 have HX : Boxes w.heap.size A c l.length (.slice none 0 0) (.int .i64 0) ((((w.alloc (.cells #[.slice A l.length c] 23)).alloc (.cells #[.slice none 0 0] 23)).alloc (.cells #[.int .i64 0] 3)).alloc (.cells #[.int .i64 0] 36)) := by
  constructor <;> simp [go_sem]
 refine (try_calls 121 _ w.heap.size _ _ (unE l) (by simp) (enter_any _ _ _ Tryz.func121 rfl (by kernel_rfl))
  (takeseal1 A c l _ (Kd.C_alloc (Kd.C_alloc (Kd.C_alloc (Kd.C_alloc HR.out _) _) _) _) HC.out HB.out HL.out w.heap.size HX (by simp))).mono ?_
 rintro e w1 ⟨W, ⟨v, hn, hs, hnf, hsf, ho⟩, rfl, hk, hz, hbl, hg⟩
 simp only [World.size_alloc] at hz hbl hg ho
 obtain ⟨Av, cv, rfl⟩ := ho.form
 have hn1 : w1.cell? ⟨w.heap.size + 1, 0, none⟩ = some (.slice Av (takeSeal l).1.length cv) := (hbl.cell (by simp)).trans hn
 have hs1 : w1.cell? ⟨w.heap.size + 1 + 1, 0, none⟩ = some (.int .i64 (takeSeal l).2.1) := (hbl.cell (by simp)).trans hs
 have hnf1 : w1.frozen? ⟨w.heap.size + 1, 0, none⟩ = false := (hbl.frozen (by simp)).trans hnf
 have hsf1 : w1.frozen? ⟨w.heap.size + 1 + 1, 0, none⟩ = false := (hbl.frozen (by simp)).trans hsf
 have HO1 := Aside0.mk (show Own w1 (w.heap.size + 1 + 1 + 1 + 1) (.slice Av (takeSeal l).1.length cv) (takeSeal l).1 from
  Kd.R_mono (Kd.R_grown (Kd.R_bound ho) hg (fun k hk e => by have := hk.2.1; have := Option.some.inj e; omega)) (fun _ _ => trivial))
 have HBL := Aside0.mk (show Below w.heap.size w w1 from
  (((((Below.refl w.heap.size w).alloc (Nat.le_refl _) _).alloc (by simp) _).alloc (by simp; omega) _).trans (hk.below (by omega) (by simp; omega))).trans (hbl.mono (by omega)))
 have HT := Aside0.mk (show unE l = (takeSeal l).2.2 by unfold takeSeal; split <;> simp [*])
 obtain ⟨er, her⟩ : ∃ er, unE l = er := ⟨_, rfl⟩
 rw [her] at HT ⊢
 clear hn hs hnf hsf hk hz hbl HX hg ho her
 go_wp2
 go_region
 all_goals
  go_wp2
  refine bodyPost_ret (v := .tuple #[.slice Av (takeSeal l).1.length cv, .int .i64 (takeSeal l).2.1, .int .i64 er]) (by simp [results, Tryz.results59, go_sem, hn1, hs1]) rfl ⟨_, by rw [HT.out], ?_, ?_⟩
  ·refine Own.lower (base := w.heap.size + 1 + 1 + 1 + 1) ?_ (by omega)
   repeat first | exact HO1.out | apply Own.drew | refine Own.set ?_ (by first | (simp; done) | (simp; omega)) _
  ·repeat first | exact HBL.out | exact (by assumption) | apply Below.drew | refine Below.setCell ?_ (by first | (simp; done) | (simp; omega)) _
end Go.Proofs.YtgiefblcckikeaaGreat.M
namespace Go.Proofs.YtgiefblcckikeaaGreat.G
open Go.RowKit Go.Proofs.YtgiefblcckikeaaGreatW.PrintWords Go.Proofs.YtgiefblcckikeaaGreat.M
def shape_Unseal.f (l0 : List Int) : Option (List Int × Int × Int) := if okB l0 = true ∧ l0.length < 140737488355328 then some (takeSeal l0) else none
theorem shape_Unseal.calls (A0 : Option Addr) (c0 : Nat) (l0 : List Int) (r1 : List Int) (r2 : Int) (r3 : Int) (w : World) (hr0 : Kd.C (Kd.int .u8) w A0 l0.length l0) (hc0 : l0.length ≤ c0) (h : shape_Unseal.f l0 = some (r1, r2, r3)) :
  Calls Tryz.prog 59 #[.slice A0 l0.length c0] w fun e w' => ∃ v0_ : Value, e = .returned (.tuple #[v0_, .int .i64 r2, .int .i64 r3]) ∧ Kd.R (Kd.int .u8) 5 w' w.heap.size (fun _ => True) v0_ r1 ∧ Below w.heap.size w w' := by
 unfold shape_Unseal.f at h
 split at h
 ·rename_i hb
  have h := Option.some.inj h
  have h1 : r1 = (takeSeal l0).1 := by rw [h]
  have h2 : r2 = (takeSeal l0).2.1 := by rw [h]
  have h3 : r3 = (takeSeal l0).2.2 := by rw [h]
  rw [h1, h2, h3]
  exact takeSeal_calls A0 c0 l0 w hr0 hc0 hb.1 hb.2
 ·cases h
end Go.Proofs.YtgiefblcckikeaaGreat.G
end

section
/- record.Unmarshal (printed by genunm04.py). -/
attribute [local irreducible] Go.wpStill
namespace Go.Proofs.YtgiefblcckikeaaGreat.M
open Go.RowKit Go.Proofs.YtgiefblcckikeaaGreatW.PrintWords Go.Proofs.YtgiefblcckikeaaGreatW.PrintLast Go.Proofs.YtgiefblcckikeaaGreatW.PrintMore Go.Proofs.YtgiefblcckikeaaGreat.G
def unm (l : List Int) : MsgD × Int := if ¬ (takeSeal l).2.2 = 0 then (zM, (takeSeal l).2.2) else if (takeSeal l).2.1 < (l.length : Int) then (zM, 13) else takeMs (takeSeal l).1
def MsT (w : World) (y : MsgD) (er : Int) (e : Ending) (w' : World) : Prop := ∃ v8 v12 v16 : Value, e = .returned (.tuple #[.agg #[.int .i64 y.f0, .int .i64 y.f1, .int .i64 y.f2, .int .i64 y.f3, .int .i64 y.f4, .int .i64 y.f5, .int .i64 y.f6, .bool y.f7, v8, .int .i64 y.f9.f0, .int .i64 y.f9.f1, .int .i64 y.f9.f2, v12, .int .i64 y.f10.f0, .int .i64 y.f10.f1, .int .i64 y.f10.f2, v16], .int .i64 er]) ∧ Kd.R G.k63 63 w' w.heap.size (fun _ => True) v8 y.f8 ∧ Kd.R G.k26 26 w' w.heap.size (fun _ => True) v12 y.f9.f3 ∧ Kd.R (Kd.int .u8) 5 w' w.heap.size (fun _ => True) v16 y.f10.f3 ∧ Below w.heap.size w w'
theorem takeSeal_ok {l : List Int} (hb : okB l = true) (hl : l.length < 140737488355328) : okS ⟨(takeSeal l).1, 0, false⟩ := by
 unfold takeSeal
 split
 ·unfold blD
  refine ⟨okB_drop (okB_take hb _) _, ?_⟩
  show (List.drop _ (List.take _ l)).length < _
  rw [List.length_drop, List.length_take]
  omega
 ·exact (⟨rfl, by decide⟩ : okS ⟨[], 0, false⟩)
theorem setRow_below {w0 w : World} {b : Nat} {cs cs' : Array Value} {t : Nat} (hB : Below w0.heap.size w0 w) (hb : w0.heap.size ≤ b) : Below w0.heap.size w0 (w.setRow b cs') := by
 have hk : KeepS (fun k => k = b) w (w.setRow b cs') := ⟨rfl, rfl, rfl, by simp, fun i _ hi => setRow_other w b i cs' (fun e => hi e)⟩
 exact hB.trans (hk.below hB.size (by rintro i rfl; exact hb))
set_option maxHeartbeats 4000000 in
theorem unm_is (A : Option Addr) (c : Nat) (l : List Int) (w : World) (hr : Kd.C (Kd.int .u8) w A l.length l) (hc : l.length ≤ c) (hb : okB l = true) (hl : l.length < 140737488355328) :
  Calls Tryz.prog 25 #[.slice A l.length c] w fun e w' => MsT w (unm l).1 (unm l).2 e w' := by
 obtain ⟨d, hd⟩ : ∃ d, (takeSeal l).1 = d := ⟨_, rfl⟩
 obtain ⟨n, hn⟩ : ∃ n, (takeSeal l).2.1 = n := ⟨_, rfl⟩
 obtain ⟨er, her⟩ : ∃ er, (takeSeal l).2.2 = er := ⟨_, rfl⟩
 have hok := takeSeal_ok hb hl
 rw [hd] at hok
 have HOK := Lib.hid hok
 have HU := Lib.hid (show unm l = if ¬ er = 0 then (zM, er) else if n < (l.length : Int) then (zM, 13) else takeMs d by unfold unm; rw [hd, hn, her])
 have HS := Lib.hid (takeSeal_calls A c l (w.alloc (.cells #[.int .i64 0, .int .i64 0, .int .i64 0, .int .i64 0, .int .i64 0, .int .i64 0, .int .i64 0, .bool false, .slice none 0 0, .int .i64 0, .int .i64 0, .int .i64 0, .slice none 0 0, .int .i64 0, .int .i64 0, .int .i64 0, .slice none 0 0] 34)) (Kd.C_alloc hr _) hc hb hl)
 rw [hd, hn, her] at HS
 have hg := heap_alloc_new w (.cells #[.int .i64 0, .int .i64 0, .int .i64 0, .int .i64 0, .int .i64 0, .int .i64 0, .int .i64 0, .bool false, .slice none 0 0, .int .i64 0, .int .i64 0, .int .i64 0, .slice none 0 0, .int .i64 0, .int .i64 0, .int .i64 0, .slice none 0 0] 34)
 have hbz := (Below.refl _ w).alloc (Nat.le_refl _) (.cells #[.int .i64 0, .int .i64 0, .int .i64 0, .int .i64 0, .int .i64 0, .int .i64 0, .int .i64 0, .bool false, .slice none 0 0, .int .i64 0, .int .i64 0, .int .i64 0, .slice none 0 0, .int .i64 0, .int .i64 0, .int .i64 0, .slice none 0 0] 34)
 have hz : (w.alloc (.cells #[.int .i64 0, .int .i64 0, .int .i64 0, .int .i64 0, .int .i64 0, .int .i64 0, .int .i64 0, .bool false, .slice none 0 0, .int .i64 0, .int .i64 0, .int .i64 0, .slice none 0 0, .int .i64 0, .int .i64 0, .int .i64 0, .slice none 0 0] 34)).heap.size = w.heap.size + 1 := by simp
 clear hd hn her hok hr hc hb hl
 go_enter Tryz.func25, Tryz.ntmps25
 go_upto_region 1 with fail
 obtain ⟨wA, hw⟩ : ∃ W, w.alloc (.cells #[.int .i64 0, .int .i64 0, .int .i64 0, .int .i64 0, .int .i64 0, .int .i64 0, .int .i64 0, .bool false, .slice none 0 0, .int .i64 0, .int .i64 0, .int .i64 0, .slice none 0 0, .int .i64 0, .int .i64 0, .int .i64 0, .slice none 0 0] 34) = W := ⟨_, rfl⟩
 rw [hw] at HS hg hbz hz ⊢
 clear hw
 go_wp2_with fail
 refine HS.out.mono ?_
 rintro e w1 ⟨v, rfl, ho, hb1⟩
 obtain ⟨Ad, cd, rfl⟩ := Own.form ho
 have HO := Lib.hid (Kd.R_reads' ho)
 have HG := Lib.hid ((hb1.block w.heap.size (by omega)).trans hg)
 have HZ := Lib.hid (show w.heap.size < w1.heap.size by have := hb1.size; omega)
 have HB := Lib.hid (hbz.trans (hb1.mono (by omega)))
 clear ho hb1 hg hbz hz HS
 by_cases he : er = 0
 case neg =>
  have HR := Lib.hid (show unm l = (zM, er) by rw [HU.out, if_pos he])
  have q : (er != 0) = true := bne_iff_ne.2 he
  clear he HU
  go_upto_region 3 with fail
  refine wp_region_list ?_
  refine wpList_cut 2 ?_
  simp only [List.take_succ_cons, List.take_zero, List.drop_succ_cons, List.drop_zero]
  go_wp2_with fail
  refine Halt.mk ?_
  refine wpList_store_row rfl 34 (.tmp 2) (.tmp 18) rfl w.heap.size #[.int .i64 0, .int .i64 0, .int .i64 0, .int .i64 0, .int .i64 0, .int .i64 0, .int .i64 0, .bool false, .slice none 0 0, .int .i64 0, .int .i64 0, .int .i64 0, .slice none 0 0, .int .i64 0, .int .i64 0, .int .i64 0, .slice none 0 0] rfl rfl 34 #[.int .i64 0, .int .i64 0, .int .i64 0, .int .i64 0, .int .i64 0, .int .i64 0, .int .i64 0, .bool false, .slice none 0 0, .int .i64 0, .int .i64 0, .int .i64 0, .slice none 0 0, .int .i64 0, .int .i64 0, .int .i64 0, .slice none 0 0] HG.out (by kernel_rfl) rfl (by simp [Value.oneCell']) ?_
  have HEB := Lib.hid (setRow_heap w1 w.heap.size #[.int .i64 0, .int .i64 0, .int .i64 0, .int .i64 0, .int .i64 0, .int .i64 0, .int .i64 0, .bool false, .slice none 0 0, .int .i64 0, .int .i64 0, .int .i64 0, .slice none 0 0, .int .i64 0, .int .i64 0, .int .i64 0, .slice none 0 0] #[.int .i64 0, .int .i64 0, .int .i64 0, .int .i64 0, .int .i64 0, .int .i64 0, .int .i64 0, .bool false, .slice none 0 0, .int .i64 0, .int .i64 0, .int .i64 0, .slice none 0 0, .int .i64 0, .int .i64 0, .int .i64 0, .slice none 0 0] 34 (0, 0) HG.out)
  have HBE := Lib.hid (setRow_below (cs := #[.int .i64 0, .int .i64 0, .int .i64 0, .int .i64 0, .int .i64 0, .int .i64 0, .int .i64 0, .bool false, .slice none 0 0, .int .i64 0, .int .i64 0, .int .i64 0, .slice none 0 0, .int .i64 0, .int .i64 0, .int .i64 0, .slice none 0 0]) (cs' := #[.int .i64 0, .int .i64 0, .int .i64 0, .int .i64 0, .int .i64 0, .int .i64 0, .int .i64 0, .bool false, .slice none 0 0, .int .i64 0, .int .i64 0, .int .i64 0, .slice none 0 0, .int .i64 0, .int .i64 0, .int .i64 0, .slice none 0 0]) (t := 34) HB.out (Nat.le_refl _))
  obtain ⟨W, hW⟩ : ∃ W, w1.setRow w.heap.size #[.int .i64 0, .int .i64 0, .int .i64 0, .int .i64 0, .int .i64 0, .int .i64 0, .int .i64 0, .bool false, .slice none 0 0, .int .i64 0, .int .i64 0, .int .i64 0, .slice none 0 0, .int .i64 0, .int .i64 0, .int .i64 0, .slice none 0 0] = W := ⟨_, rfl⟩
  rw [hW] at HEB HBE ⊢
  clear hW
  go_wp2_with fail
  refine bodyPost_ret (results_ct rfl _ _ w.heap.size 34 #[.int .i64 0, .int .i64 0, .int .i64 0, .int .i64 0, .int .i64 0, .int .i64 0, .int .i64 0, .bool false, .slice none 0 0, .int .i64 0, .int .i64 0, .int .i64 0, .slice none 0 0, .int .i64 0, .int .i64 0, .int .i64 0, .slice none 0 0] (0, 0) _ rfl HEB.out Tryz.underlying34 rfl (by kernel_rfl)) rfl ?_
  rw [HR.out]
  exact ⟨_, _, _, rfl, Kd.R_nil _ _ _ _ _, Kd.R_nil _ _ _ _ _, Kd.R_nil _ _ _ _ _, HBE.out⟩
 case pos =>
  have q : (er != 0) = false := by rw [he]; rfl
  by_cases hn : n < (l.length : Int)
  case pos =>
   have HR := Lib.hid (show unm l = (zM, 13) by rw [HU.out, if_neg (fun q => q he), if_pos hn])
   have q2 : decide (n < (l.length : Int)) = true := decide_eq_true hn
   clear he hn HU
   go_upto_region 5 with fail
   refine wp_region_list ?_
   refine wpList_cut 1 ?_
   simp only [List.take_succ_cons, List.take_zero, List.drop_succ_cons, List.drop_zero]
   go_wp2_with fail
   refine Halt.mk ?_
   refine wpList_store_row rfl 34 (.tmp 2) (.tmp 24) rfl w.heap.size #[.int .i64 0, .int .i64 0, .int .i64 0, .int .i64 0, .int .i64 0, .int .i64 0, .int .i64 0, .bool false, .slice none 0 0, .int .i64 0, .int .i64 0, .int .i64 0, .slice none 0 0, .int .i64 0, .int .i64 0, .int .i64 0, .slice none 0 0] rfl rfl 34 #[.int .i64 0, .int .i64 0, .int .i64 0, .int .i64 0, .int .i64 0, .int .i64 0, .int .i64 0, .bool false, .slice none 0 0, .int .i64 0, .int .i64 0, .int .i64 0, .slice none 0 0, .int .i64 0, .int .i64 0, .int .i64 0, .slice none 0 0] HG.out (by kernel_rfl) rfl (by simp [Value.oneCell']) ?_
   have HEB := Lib.hid (setRow_heap w1 w.heap.size #[.int .i64 0, .int .i64 0, .int .i64 0, .int .i64 0, .int .i64 0, .int .i64 0, .int .i64 0, .bool false, .slice none 0 0, .int .i64 0, .int .i64 0, .int .i64 0, .slice none 0 0, .int .i64 0, .int .i64 0, .int .i64 0, .slice none 0 0] #[.int .i64 0, .int .i64 0, .int .i64 0, .int .i64 0, .int .i64 0, .int .i64 0, .int .i64 0, .bool false, .slice none 0 0, .int .i64 0, .int .i64 0, .int .i64 0, .slice none 0 0, .int .i64 0, .int .i64 0, .int .i64 0, .slice none 0 0] 34 (0, 0) HG.out)
   have HBE := Lib.hid (setRow_below (cs := #[.int .i64 0, .int .i64 0, .int .i64 0, .int .i64 0, .int .i64 0, .int .i64 0, .int .i64 0, .bool false, .slice none 0 0, .int .i64 0, .int .i64 0, .int .i64 0, .slice none 0 0, .int .i64 0, .int .i64 0, .int .i64 0, .slice none 0 0]) (cs' := #[.int .i64 0, .int .i64 0, .int .i64 0, .int .i64 0, .int .i64 0, .int .i64 0, .int .i64 0, .bool false, .slice none 0 0, .int .i64 0, .int .i64 0, .int .i64 0, .slice none 0 0, .int .i64 0, .int .i64 0, .int .i64 0, .slice none 0 0]) (t := 34) HB.out (Nat.le_refl _))
   obtain ⟨W, hW⟩ : ∃ W, w1.setRow w.heap.size #[.int .i64 0, .int .i64 0, .int .i64 0, .int .i64 0, .int .i64 0, .int .i64 0, .int .i64 0, .bool false, .slice none 0 0, .int .i64 0, .int .i64 0, .int .i64 0, .slice none 0 0, .int .i64 0, .int .i64 0, .int .i64 0, .slice none 0 0] = W := ⟨_, rfl⟩
   rw [hW] at HEB HBE ⊢
   clear hW
   go_wp2_with fail
   refine bodyPost_ret (results_ct rfl _ _ w.heap.size 34 #[.int .i64 0, .int .i64 0, .int .i64 0, .int .i64 0, .int .i64 0, .int .i64 0, .int .i64 0, .bool false, .slice none 0 0, .int .i64 0, .int .i64 0, .int .i64 0, .slice none 0 0, .int .i64 0, .int .i64 0, .int .i64 0, .slice none 0 0] (0, 0) _ rfl HEB.out Tryz.underlying34 rfl (by kernel_rfl)) rfl ?_
   rw [HR.out]
   exact ⟨_, _, _, rfl, Kd.R_nil _ _ _ _ _, Kd.R_nil _ _ _ _ _, Kd.R_nil _ _ _ _ _, HBE.out⟩
  case neg =>
   have q2 : decide (n < (l.length : Int)) = false := decide_eq_false hn
   have HR0 := Lib.hid (show unm l = takeMs d by rw [HU.out, if_neg (fun q => q he), if_neg hn])
   clear he hn HU
   obtain ⟨y, hy⟩ : ∃ y, (eMsg ⟨d, 0, false⟩).1 = y := ⟨_, rfl⟩
   obtain ⟨s', hs⟩ : ∃ t, (eMsg ⟨d, 0, false⟩).2 = t := ⟨_, rfl⟩
   have h0 := heap_alloc_new w1 (.cells #[.slice Ad d.length cd, .int .i64 0, .bool false] 81)
   have hb2 := (Below.refl _ w1).alloc (Nat.le_refl _) (.cells #[.slice Ad d.length cd, .int .i64 0, .bool false] 81)
   have hI : IsEye w1 (w1.alloc (.cells #[.slice Ad d.length cd, .int .i64 0, .bool false] 81)) w1.heap.size ⟨d, 0, false⟩ := ⟨Ad, cd, h0, Nat.le_refl _, HO.out.2.1, HO.out.2.2⟩
   have HN := Lib.hid (eMsg_is hI hb2 HOK.out)
   rw [hy, hs] at HN
   have HPI := Lib.hid (show isI64 y.f10.f2 by rw [← hy]; exact (okM_eMsg HOK.out).2.1)
   obtain ⟨e2, he2⟩ : ∃ e2, eEnds s' (mayMs y) true = e2 := ⟨_, rfl⟩
   have HR1 := Lib.hid (show unm l = if e2 = 0 then (y, 0) else (zM, e2) by rw [HR0.out]; unfold takeMs; unfold wholeOf; rw [hy, hs, he2])
   have HE2 := Lib.hid he2
   clear h0 hI hy hs he2 HR0
   go_wp2_with fail
   obtain ⟨w2, hw⟩ : ∃ W, w1.alloc (.cells #[.slice Ad d.length cd, .int .i64 0, .bool false] 81) = W := ⟨_, rfl⟩
   rw [hw] at HN hb2 ⊢
   refine HN.out.mono ?_
   rintro e w3 ⟨v8, v12, v16, rfl, r8, r12, r16, hI, hB, hK⟩
   obtain ⟨A8, c8, rfl⟩ := Kd.R_slice r8
   obtain ⟨A12, c12, rfl⟩ := Kd.R_slice r12
   obtain ⟨A16, c16, rfl⟩ := Kd.R_slice r16
   have HI := Lib.hid hI
   have HB3 := Lib.hid hB
   have HX2 := Lib.hid (show w1.heap.size < w2.heap.size by rw [← hw]; simp)
   have HX3 := Lib.hid (Nat.lt_of_lt_of_le HX2.out hK.size)
   have HZ2 := Lib.hid (show w.heap.size < w2.heap.size from Nat.lt_trans HZ.out HX2.out)
   clear hw
   have HSZ := Lib.hid (show w.heap.size ≤ w2.heap.size from Nat.le_trans (Nat.le_of_lt HZ.out) hb2.size)
   have HV8 := Lib.hid r8
   have HV12 := Lib.hid r12
   have HV16 := Lib.hid r16
   clear r8 r12 r16 hI hB hK hb2 HN q q2
   go_upto_region 8 with fail
   have hby := heap_alloc_new w3 (.cells #[.int .i64 y.f0, .int .i64 y.f1, .int .i64 y.f2, .int .i64 y.f3, .int .i64 y.f4, .int .i64 y.f5, .int .i64 y.f6, .bool y.f7, .slice A8 y.f8.length c8, .int .i64 y.f9.f0, .int .i64 y.f9.f1, .int .i64 y.f9.f2, .slice A12 y.f9.f3.length c12, .int .i64 y.f10.f0, .int .i64 y.f10.f1, .int .i64 y.f10.f2, .slice A16 y.f10.f3.length c16] 34)
   have hay := (Below.refl _ w3).alloc (Nat.le_refl _) (.cells #[.int .i64 y.f0, .int .i64 y.f1, .int .i64 y.f2, .int .i64 y.f3, .int .i64 y.f4, .int .i64 y.f5, .int .i64 y.f6, .bool y.f7, .slice A8 y.f8.length c8, .int .i64 y.f9.f0, .int .i64 y.f9.f1, .int .i64 y.f9.f2, .slice A12 y.f9.f3.length c12, .int .i64 y.f10.f0, .int .i64 y.f10.f1, .int .i64 y.f10.f2, .slice A16 y.f10.f3.length c16] 34)
   obtain ⟨w4, hw⟩ : ∃ W, w3.alloc (.cells #[.int .i64 y.f0, .int .i64 y.f1, .int .i64 y.f2, .int .i64 y.f3, .int .i64 y.f4, .int .i64 y.f5, .int .i64 y.f6, .bool y.f7, .slice A8 y.f8.length c8, .int .i64 y.f9.f0, .int .i64 y.f9.f1, .int .i64 y.f9.f2, .slice A12 y.f9.f3.length c12, .int .i64 y.f10.f0, .int .i64 y.f10.f1, .int .i64 y.f10.f2, .slice A16 y.f10.f3.length c16] 34) = W := ⟨_, rfl⟩
   rw [hw] at hby hay ⊢
   clear hw
   have HI4 := Lib.hid (HI.out.below hay)
   have HB4 := Lib.hid (HB3.out.trans (hay.mono HB3.out.size))
   have HW8 := Lib.hid (Kd.R_below HV8.out hay)
   have HW12 := Lib.hid (Kd.R_below HV12.out hay)
   have HW16 := Lib.hid (Kd.R_below HV16.out hay)
   obtain ⟨g, hg⟩ : ∃ g, w3.heap.size = g := ⟨_, rfl⟩
   have hxg : w1.heap.size < g := by rw [← hg]; exact HX3.out
   have hgz : g < w4.heap.size := by rw [← hg]; exact (Array.getElem?_eq_some_iff.1 hby).1
   rw [hg] at hby ⊢
   have HY4 := Lib.hid hby
   have HGZ := Lib.hid hgz
   clear hby hay hg hgz HI HB3 HV8 HV12 HV16
   have HXG := Lib.hid hxg
   clear hxg
   have HY5 := HY4; have HI5 := HI4; have HB5 := HB4; have HGZ5 := HGZ
   have HX8 := HW8
   have HX12 := HW12
   have HX16 := HW16
   clear HI4 HB4 HY4 HW8 HW12 HW16 HGZ
   refine wp_region_list ?_
   refine wpList_cut 1 ?_
   simp only [List.take_succ_cons, List.take_zero, List.drop_succ_cons, List.drop_zero]
   go_wp2_with fail
   refine Halt.mk ?_
   refine wpList_load_row rfl 34 (.tmp 8) rfl g rfl 34 #[.int .i64 y.f0, .int .i64 y.f1, .int .i64 y.f2, .int .i64 y.f3, .int .i64 y.f4, .int .i64 y.f5, .int .i64 y.f6, .bool y.f7, .slice A8 y.f8.length c8, .int .i64 y.f9.f0, .int .i64 y.f9.f1, .int .i64 y.f9.f2, .slice A12 y.f9.f3.length c12, .int .i64 y.f10.f0, .int .i64 y.f10.f1, .int .i64 y.f10.f2, .slice A16 y.f10.f3.length c16] (0, 0) _ HY5.out Tryz.underlying34 rfl (by kernel_rfl) ?_
   go_wp2_with fail
   have hm : MsgC w4 y A8 c8 A12 c12 A16 c16 := ⟨(Kd.R_reads' HX8.out).2.1, (Kd.R_reads' HX8.out).2.2, (Kd.R_reads' HX12.out).2.1, (Kd.R_reads' HX12.out).2.2, (Kd.R_reads' HX16.out).2.1, (Kd.R_reads' HX16.out).2.2⟩
   refine (msg_is y hm HPI.out).mono ?_
   rintro e w6 ⟨rfl, hb⟩
   have HI6 := Lib.hid (HI5.out.below hb)
   have HB6 := Lib.hid (HB5.out.trans (hb.mono HB5.out.size))
   have HY6 := Lib.hid ((hb.block g HGZ5.out).trans HY5.out)
   have HU8 := Lib.hid (Kd.R_below HX8.out hb)
   have HU12 := Lib.hid (Kd.R_below HX12.out hb)
   have HU16 := Lib.hid (Kd.R_below HX16.out hb)
   have HG6 := Lib.hid ((HB6.out.block w.heap.size HZ.out).trans HG.out)
   have HBW := Lib.hid (HB.out.trans (HB6.out.mono (Nat.le_of_lt HZ.out)))
   clear hm hb HI5 HB5 HY5 HX8 HX12 HX16 HGZ5
   have HE := eEnds_is HI6.out (mayMs y) true
   rw [HE2.out] at HE
   have HE := Lib.hid HE
   go_wp2_with fail
   refine HE.out.mono ?_
   rintro e w7 ⟨rfl, rfl⟩
   clear HE
   by_cases he : e2 = 0
   case pos =>
    have HR := Lib.hid (show unm l = (y, 0) by rw [HR1.out, if_pos he])
    have q : (e2 != 0) = false := by rw [he]; rfl
    clear he HR1
    go_upto_region 11 with fail
    refine wp_region_list ?_
    refine wpList_load_row rfl 34 (.tmp 8) rfl g rfl 34 #[.int .i64 y.f0, .int .i64 y.f1, .int .i64 y.f2, .int .i64 y.f3, .int .i64 y.f4, .int .i64 y.f5, .int .i64 y.f6, .bool y.f7, .slice A8 y.f8.length c8, .int .i64 y.f9.f0, .int .i64 y.f9.f1, .int .i64 y.f9.f2, .slice A12 y.f9.f3.length c12, .int .i64 y.f10.f0, .int .i64 y.f10.f1, .int .i64 y.f10.f2, .slice A16 y.f10.f3.length c16] (0, 0) _ HY6.out Tryz.underlying34 rfl (by kernel_rfl) ?_
    refine wpList_store_row rfl 34 (.tmp 2) (.tmp 38) rfl w.heap.size #[.int .i64 y.f0, .int .i64 y.f1, .int .i64 y.f2, .int .i64 y.f3, .int .i64 y.f4, .int .i64 y.f5, .int .i64 y.f6, .bool y.f7, .slice A8 y.f8.length c8, .int .i64 y.f9.f0, .int .i64 y.f9.f1, .int .i64 y.f9.f2, .slice A12 y.f9.f3.length c12, .int .i64 y.f10.f0, .int .i64 y.f10.f1, .int .i64 y.f10.f2, .slice A16 y.f10.f3.length c16] rfl rfl 34 #[.int .i64 0, .int .i64 0, .int .i64 0, .int .i64 0, .int .i64 0, .int .i64 0, .int .i64 0, .bool false, .slice none 0 0, .int .i64 0, .int .i64 0, .int .i64 0, .slice none 0 0, .int .i64 0, .int .i64 0, .int .i64 0, .slice none 0 0] HG6.out (by kernel_rfl) rfl (by simp [Value.oneCell']) ?_
    have HEB := Lib.hid (setRow_heap w7 w.heap.size #[.int .i64 0, .int .i64 0, .int .i64 0, .int .i64 0, .int .i64 0, .int .i64 0, .int .i64 0, .bool false, .slice none 0 0, .int .i64 0, .int .i64 0, .int .i64 0, .slice none 0 0, .int .i64 0, .int .i64 0, .int .i64 0, .slice none 0 0] #[.int .i64 y.f0, .int .i64 y.f1, .int .i64 y.f2, .int .i64 y.f3, .int .i64 y.f4, .int .i64 y.f5, .int .i64 y.f6, .bool y.f7, .slice A8 y.f8.length c8, .int .i64 y.f9.f0, .int .i64 y.f9.f1, .int .i64 y.f9.f2, .slice A12 y.f9.f3.length c12, .int .i64 y.f10.f0, .int .i64 y.f10.f1, .int .i64 y.f10.f2, .slice A16 y.f10.f3.length c16] 34 (0, 0) HG6.out)
    have HBE := Lib.hid (setRow_below (cs := #[.int .i64 0, .int .i64 0, .int .i64 0, .int .i64 0, .int .i64 0, .int .i64 0, .int .i64 0, .bool false, .slice none 0 0, .int .i64 0, .int .i64 0, .int .i64 0, .slice none 0 0, .int .i64 0, .int .i64 0, .int .i64 0, .slice none 0 0]) (cs' := #[.int .i64 y.f0, .int .i64 y.f1, .int .i64 y.f2, .int .i64 y.f3, .int .i64 y.f4, .int .i64 y.f5, .int .i64 y.f6, .bool y.f7, .slice A8 y.f8.length c8, .int .i64 y.f9.f0, .int .i64 y.f9.f1, .int .i64 y.f9.f2, .slice A12 y.f9.f3.length c12, .int .i64 y.f10.f0, .int .i64 y.f10.f1, .int .i64 y.f10.f2, .slice A16 y.f10.f3.length c16]) (t := 34) HBW.out (Nat.le_refl _))
    obtain ⟨W, hW⟩ : ∃ W, w7.setRow w.heap.size #[.int .i64 y.f0, .int .i64 y.f1, .int .i64 y.f2, .int .i64 y.f3, .int .i64 y.f4, .int .i64 y.f5, .int .i64 y.f6, .bool y.f7, .slice A8 y.f8.length c8, .int .i64 y.f9.f0, .int .i64 y.f9.f1, .int .i64 y.f9.f2, .slice A12 y.f9.f3.length c12, .int .i64 y.f10.f0, .int .i64 y.f10.f1, .int .i64 y.f10.f2, .slice A16 y.f10.f3.length c16] = W := ⟨_, rfl⟩
    rw [hW] at HEB HBE ⊢
    have hkp : ∀ k, k < w7.heap.size → k ≠ w.heap.size → W.heap[k]? = w7.heap[k]? := fun k _ hne => by rw [← hW]; exact setRow_other w7 w.heap.size k _ hne
    have HQ8 := Lib.hid (Kd.R_mono (Kd.R_step (Kd.R_lower (Kd.R_bound HU8.out) HSZ.out) (fun k hk hlt => hkp k hlt (by have h1 := hk.2.1; have h2 := HZ2.out; omega))) (fun _ _ => trivial) : Kd.R G.k63 63 W w.heap.size (fun _ => True) _ _)
    have HQ12 := Lib.hid (Kd.R_mono (Kd.R_step (Kd.R_lower (Kd.R_bound HU12.out) HSZ.out) (fun k hk hlt => hkp k hlt (by have h1 := hk.2.1; have h2 := HZ2.out; omega))) (fun _ _ => trivial) : Kd.R G.k26 26 W w.heap.size (fun _ => True) _ _)
    have HQ16 := Lib.hid (Kd.R_mono (Kd.R_step (Kd.R_lower (Kd.R_bound HU16.out) HSZ.out) (fun k hk hlt => hkp k hlt (by have h1 := hk.2.1; have h2 := HZ2.out; omega))) (fun _ _ => trivial) : Kd.R (Kd.int .u8) 5 W w.heap.size (fun _ => True) _ _)
    clear hkp
    clear hW
    go_wp2_with fail
    refine bodyPost_ret (results_ct rfl _ _ w.heap.size 34 #[.int .i64 y.f0, .int .i64 y.f1, .int .i64 y.f2, .int .i64 y.f3, .int .i64 y.f4, .int .i64 y.f5, .int .i64 y.f6, .bool y.f7, .slice A8 y.f8.length c8, .int .i64 y.f9.f0, .int .i64 y.f9.f1, .int .i64 y.f9.f2, .slice A12 y.f9.f3.length c12, .int .i64 y.f10.f0, .int .i64 y.f10.f1, .int .i64 y.f10.f2, .slice A16 y.f10.f3.length c16] (0, 0) _ rfl HEB.out Tryz.underlying34 rfl (by kernel_rfl)) rfl ?_
    rw [HR.out]
    exact ⟨_, _, _, rfl, HQ8.out, HQ12.out, HQ16.out, HBE.out⟩
   case neg =>
    have HR := Lib.hid (show unm l = (zM, e2) by rw [HR1.out, if_neg he])
    have q : (e2 != 0) = true := bne_iff_ne.2 he
    clear he HR1
    go_upto_region 10 with fail
    refine wp_region_list ?_
    refine wpList_cut 2 ?_
    simp only [List.take_succ_cons, List.take_zero, List.drop_succ_cons, List.drop_zero]
    go_wp2_with fail
    refine Halt.mk ?_
    refine wpList_store_row rfl 34 (.tmp 2) (.tmp 36) rfl w.heap.size #[.int .i64 0, .int .i64 0, .int .i64 0, .int .i64 0, .int .i64 0, .int .i64 0, .int .i64 0, .bool false, .slice none 0 0, .int .i64 0, .int .i64 0, .int .i64 0, .slice none 0 0, .int .i64 0, .int .i64 0, .int .i64 0, .slice none 0 0] rfl rfl 34 #[.int .i64 0, .int .i64 0, .int .i64 0, .int .i64 0, .int .i64 0, .int .i64 0, .int .i64 0, .bool false, .slice none 0 0, .int .i64 0, .int .i64 0, .int .i64 0, .slice none 0 0, .int .i64 0, .int .i64 0, .int .i64 0, .slice none 0 0] HG6.out (by kernel_rfl) rfl (by simp [Value.oneCell']) ?_
    have HEB := Lib.hid (setRow_heap w7 w.heap.size #[.int .i64 0, .int .i64 0, .int .i64 0, .int .i64 0, .int .i64 0, .int .i64 0, .int .i64 0, .bool false, .slice none 0 0, .int .i64 0, .int .i64 0, .int .i64 0, .slice none 0 0, .int .i64 0, .int .i64 0, .int .i64 0, .slice none 0 0] #[.int .i64 0, .int .i64 0, .int .i64 0, .int .i64 0, .int .i64 0, .int .i64 0, .int .i64 0, .bool false, .slice none 0 0, .int .i64 0, .int .i64 0, .int .i64 0, .slice none 0 0, .int .i64 0, .int .i64 0, .int .i64 0, .slice none 0 0] 34 (0, 0) HG6.out)
    have HBE := Lib.hid (setRow_below (cs := #[.int .i64 0, .int .i64 0, .int .i64 0, .int .i64 0, .int .i64 0, .int .i64 0, .int .i64 0, .bool false, .slice none 0 0, .int .i64 0, .int .i64 0, .int .i64 0, .slice none 0 0, .int .i64 0, .int .i64 0, .int .i64 0, .slice none 0 0]) (cs' := #[.int .i64 0, .int .i64 0, .int .i64 0, .int .i64 0, .int .i64 0, .int .i64 0, .int .i64 0, .bool false, .slice none 0 0, .int .i64 0, .int .i64 0, .int .i64 0, .slice none 0 0, .int .i64 0, .int .i64 0, .int .i64 0, .slice none 0 0]) (t := 34) HBW.out (Nat.le_refl _))
    obtain ⟨W, hW⟩ : ∃ W, w7.setRow w.heap.size #[.int .i64 0, .int .i64 0, .int .i64 0, .int .i64 0, .int .i64 0, .int .i64 0, .int .i64 0, .bool false, .slice none 0 0, .int .i64 0, .int .i64 0, .int .i64 0, .slice none 0 0, .int .i64 0, .int .i64 0, .int .i64 0, .slice none 0 0] = W := ⟨_, rfl⟩
    rw [hW] at HEB HBE ⊢
    clear hW
    go_wp2_with fail
    refine bodyPost_ret (results_ct rfl _ _ w.heap.size 34 #[.int .i64 0, .int .i64 0, .int .i64 0, .int .i64 0, .int .i64 0, .int .i64 0, .int .i64 0, .bool false, .slice none 0 0, .int .i64 0, .int .i64 0, .int .i64 0, .slice none 0 0, .int .i64 0, .int .i64 0, .int .i64 0, .slice none 0 0] (0, 0) _ rfl HEB.out Tryz.underlying34 rfl (by kernel_rfl)) rfl ?_
    rw [HR.out]
    exact ⟨_, _, _, rfl, Kd.R_nil _ _ _ _ _, Kd.R_nil _ _ _ _ _, Kd.R_nil _ _ _ _ _, HBE.out⟩
end Go.Proofs.YtgiefblcckikeaaGreat.M
end

section
/- Sealed bytes are taken back; a beginning of them, and changed ones, are not (printed by genuns04.py out of law01's rows). -/
namespace Go.Proofs.YtgiefblcckikeaaGreat.M
open Go.RowKit Go.Proofs.YtgiefblcckikeaaGreatW.PrintWords Go.Proofs.YtgiefblcckikeaaGreatW.PrintLast Go.Proofs.YtgiefblcckikeaaGreatW.PrintMore Go.Proofs.YtgiefblcckikeaaGreat.G
theorem blob_back {d : List Int} (h : d.length < 140737488355328) (rest : List Int) (most more : Int) (hm : (d.length : Int) ≤ most) (hr : more ≤ (rest.length : Int)) (h0 : 0 ≤ more) :
  blE (blobB [] d ++ rest) most more = 0 ∧ blLo (blobB [] d ++ rest) = ((numB (d.length : Int)).length : Int) ∧ blHi (blobB [] d ++ rest) = ((numB (d.length : Int)).length : Int) + (d.length : Int) ∧ blD (blobB [] d ++ rest) = d := by
 have e : blobB [] d ++ rest = numB (d.length : Int) ++ (d ++ rest) := by unfold blobB; simp
 obtain ⟨h1, h2, h3⟩ := form_back (isI64_len h) (d ++ rest)
 rw [e]
 have hlo : blLo (numB (d.length : Int) ++ (d ++ rest)) = ((numB (d.length : Int)).length : Int) := by unfold blLo; exact h3
 have hhi : blHi (numB (d.length : Int) ++ (d ++ rest)) = ((numB (d.length : Int)).length : Int) + (d.length : Int) := by unfold blHi; rw [h2, h3]
 refine ⟨?_, hlo, hhi, ?_⟩
 ·unfold blE
  rw [h1, h2, h3, if_neg (by omega), if_neg (by omega), if_neg (by omega), if_neg (by simp only [List.length_append]; omega)]
 ·unfold blD
  rw [hlo, hhi, show (((numB (d.length : Int)).length : Int) + (d.length : Int)).toNat = (numB (d.length : Int)).length + d.length from by omega, Int.toNat_natCast, List.take_length_add_append, List.drop_left]
  simp
theorem blobB_ok {l d : List Int} (hl : okB l = true) (hd : okB d = true) (h : d.length < 140737488355328) : okB (blobB l d) = true :=
 okB_append (okB_append hl (numB_ok (isI64_len h))) hd
theorem zeros_ok (n : Nat) : okB (List.replicate n 0) = true := by
 unfold okB
 rw [List.all_eq_true]
 intro x hx
 rw [(List.mem_replicate.1 hx).2]
 rfl
theorem sealB_ok (l : List Int) : okB (sealB l) = true := okB_append (lowB_ok _) (zeros_ok _)
theorem unE_of {d t rest : List Int} (hd : d.length ≤ 1048576) (ht : t.length = 8) : unE (blobB [] d ++ (t ++ rest)) = (if sealB d = t then 0 else 12) ∧ takeSeal (blobB [] d ++ (t ++ rest)) = (if sealB d = t then (d, ((numB (d.length : Int)).length : Int) + (d.length : Int) + 8, 0) else ([], 0, 12)) := by
 obtain ⟨c1, c2, c3, c4⟩ := blob_back (d := d) (by omega) (t ++ rest) 1048576 8 (by omega) (by simp; omega) (by omega)
 have hy := blob_len d
 have htail : tail8 (blobB [] d ++ (t ++ rest)) = t := by
  unfold tail8
  rw [c3]
  have e1 : (((numB (d.length : Int)).length : Int) + (d.length : Int) + 8).toNat = (blobB [] d).length + t.length := by omega
  have e2 : (((numB (d.length : Int)).length : Int) + (d.length : Int)).toNat = (blobB [] d).length := by omega
  rw [e1, e2, List.take_length_add_append, List.drop_left]
  simp
 have hu : unE (blobB [] d ++ (t ++ rest)) = (if sealB d = t then 0 else 12) := by
  unfold unE
  rw [c1, c4, htail, if_neg (by simp)]
 refine ⟨hu, ?_⟩
 unfold takeSeal
 rw [hu, c3, c4]
 split <;> simp
theorem seal_back {d : List Int} (rest : List Int) (hd : d.length ≤ 1048576) : takeSeal (sealedB d ++ rest) = (d, ((sealedB d).length : Int), 0) := by
 have h := (unE_of (d := d) (t := sealB d) (rest := rest) hd (sealB_len d)).2
 have hl := sealed_len d
 rw [if_pos rfl] at h
 unfold sealedB at hl ⊢
 rw [List.append_assoc, h]
 congr 2
 omega
theorem sealed_ok {d : List Int} (h : okB d = true) (hd : d.length ≤ 1048576) : okB (sealedB d) = true := okB_append (blobB_ok rfl h (by omega)) (sealB_ok d)
end Go.Proofs.YtgiefblcckikeaaGreat.M
end

section
/- One byte of a sealed message changed, or a beginning of it: refused. In plain Lean. -/
namespace Go.Proofs.YtgiefblcckikeaaGreat.M
open Go.RowKit Go.Proofs.YtgiefblcckikeaaGreatW.PrintWords Go.Proofs.YtgiefblcckikeaaGreatW.PrintLast Go.Proofs.YtgiefblcckikeaaGreatW.PrintMore Go.Proofs.YtgiefblcckikeaaGreat.G
end Go.Proofs.YtgiefblcckikeaaGreat.M
end

section
/- A message without what its kind does not have: record.bare, the reference's plain (printed by genbare04.py). -/
attribute [local irreducible] Go.wpStill
namespace Go.Proofs.YtgiefblcckikeaaGreat.M
open Go.RowKit Go.Proofs.YtgiefblcckikeaaGreatW.PrintWords Go.Proofs.YtgiefblcckikeaaGreatW.PrintLast Go.Proofs.YtgiefblcckikeaaGreatW.PrintMore Go.Proofs.YtgiefblcckikeaaGreat.G
set_option maxHeartbeats 4000000 in
theorem plain_k6 {w : World} (m : MsgD) {A8 A12 A16 : Option Addr} {c8 c12 c16 : Nat} (hm : MsgC w m A8 c8 A12 c12 A16 c16) (hk : m.f0 = 6) :
  Calls Tryz.prog 68 #[.agg #[.int .i64 m.f0, .int .i64 m.f1, .int .i64 m.f2, .int .i64 m.f3, .int .i64 m.f4, .int .i64 m.f5, .int .i64 m.f6, .bool m.f7, .slice A8 m.f8.length c8, .int .i64 m.f9.f0, .int .i64 m.f9.f1, .int .i64 m.f9.f2, .slice A12 m.f9.f3.length c12, .int .i64 m.f10.f0, .int .i64 m.f10.f1, .int .i64 m.f10.f2, .slice A16 m.f10.f3.length c16]] w fun e w' => BareP w m e w' := by
 have t6 : (m.f0 == 6) = true := by rw [hk]; rfl
 have t1 : (m.f0 == 1) = false := by rw [hk]; rfl
 have t2 : (m.f0 == 2) = false := by rw [hk]; rfl
 have t3 : (m.f0 == 3) = false := by rw [hk]; rfl
 have t4 : (m.f0 == 4) = false := by rw [hk]; rfl
 have t5 : (m.f0 == 5) = false := by rw [hk]; rfl
 have HK := Lib.hid hk
 clear hk
 have HM := Lib.hid hm
 clear hm
 go_enter Tryz.func68, Tryz.ntmps68
 go_upto_region 2 with fail
 obtain ⟨w0, hw, hT⟩ := bare_start w m A8 A12 A16 c8 c12 c16
 rw [← hw]
 have HT0 := Lib.hid hT
 clear hw hT
 obtain ⟨g, hg⟩ : ∃ g, w.heap.size = g := ⟨_, rfl⟩
 have HG := Lib.hid hg
 rw [hg] at HT0 ⊢
 clear hg
 obtain ⟨a0, a1, a2, a3, a4, a5, a6, a7, a8, a9, a10, a11, a12, a13, a14, a15, a16⟩ := MsBox.cell HT0.out.h.now
 have b9 : w0.cell? ⟨g + 1 + 1, 9, none⟩ = some (.int .i64 0) := (blk_cell HT0.out.y 9).trans rfl
 have z9 : w0.frozen? ⟨g + 1 + 1, 9, none⟩ = false := blk_frozen HT0.out.y 9
 have b10 : w0.cell? ⟨g + 1 + 1, 10, none⟩ = some (.int .i64 0) := (blk_cell HT0.out.y 10).trans rfl
 have z10 : w0.frozen? ⟨g + 1 + 1, 10, none⟩ = false := blk_frozen HT0.out.y 10
 have b11 : w0.cell? ⟨g + 1 + 1, 11, none⟩ = some (.int .i64 0) := (blk_cell HT0.out.y 11).trans rfl
 have z11 : w0.frozen? ⟨g + 1 + 1, 11, none⟩ = false := blk_frozen HT0.out.y 11
 have b12 : w0.cell? ⟨g + 1 + 1, 12, none⟩ = some (.slice none 0 0) := (blk_cell HT0.out.y 12).trans rfl
 have z12 : w0.frozen? ⟨g + 1 + 1, 12, none⟩ = false := blk_frozen HT0.out.y 12
 have hne : g + 1 + 1 ≠ g := by omega
 have hne2 : g ≠ g + 1 + 1 := by omega
 go_upto_region 4 with fail
 have hT : Bx w (g + 1 + 1) (g + 1) 34 #[.int .i64 0, .int .i64 0, .int .i64 0, .int .i64 0, .int .i64 0, .int .i64 0, .int .i64 0, .bool false, .slice none 0 0, .int .i64 0, .int .i64 0, .int .i64 0, .slice none 0 0, .int .i64 0, .int .i64 0, .int .i64 0, .slice none 0 0] #[.int .i64 m.f0, .int .i64 m.f1, .int .i64 m.f2, .int .i64 0, .int .i64 0, .int .i64 0, .int .i64 0, .bool false, .slice none 0 0, .int .i64 m.f9.f0, .int .i64 m.f9.f1, .int .i64 m.f9.f2, .slice A12 m.f9.f3.length c12, .int .i64 0, .int .i64 0, .int .i64 0, .slice none 0 0] _ _ := ((((HT0.out.put 9 (.int .i64 m.f9.f0)).put 10 (.int .i64 m.f9.f1)).put 11 (.int .i64 m.f9.f2)).put 12 (.slice A12 m.f9.f3.length c12))
 have HT1 := Lib.hid hT
 clear hT
 obtain ⟨w1, hw⟩ : ∃ w1, ((((w0.setCell ⟨g + 1 + 1, 9, none⟩ (.int .i64 m.f9.f0)).setCell ⟨g + 1 + 1, 10, none⟩ (.int .i64 m.f9.f1)).setCell ⟨g + 1 + 1, 11, none⟩ (.int .i64 m.f9.f2)).setCell ⟨g + 1 + 1, 12, none⟩ (.slice A12 m.f9.f3.length c12)) = w1 := ⟨_, rfl⟩
 rw [hw] at HT1 ⊢
 clear hw
 refine wp_region_list ?_
 refine wpList_load_row rfl 34 (.tmp 4) rfl (g + 1 + 1) rfl 34 _ (0, 0) _ HT1.out.y Tryz.underlying34 rfl (by kernel_rfl) ?_
 refine wpList_store_row rfl 34 (.tmp 2) (.tmp 18) rfl (g + 1) _ rfl rfl 34 _ HT1.out.g0 (by kernel_rfl) rfl (by simp [Value.oneCell']) ?_
 go_wp2_with fail
 refine bodyPost_ret (results_ct rfl _ _ (g + 1) 34 _ (0, 0) _ rfl HT1.out.fin.1 Tryz.underlying34 rfl (by kernel_rfl)) rfl ?_
 have hik : isKind m.f0 = true := by rw [HK.out]; rfl
 refine ⟨⟨m.f0, m.f1, m.f2, 0, 0, 0, 0, false, [], m.f9, zP⟩, none, A12, none, 0, c12, 0, by rw [hik]; rfl, fun _ => by unfold bareM; simp [HK.out], ⟨Nat.le_refl 0, Kd.C_nil _ _, HM.out.l12, Kd.C_below HM.out.g12 HT1.out.fin.2.2, Nat.le_refl 0, Kd.C_nil _ _⟩, HT1.out.fin.2.2⟩
set_option maxHeartbeats 4000000 in
theorem plain_k1 {w : World} (m : MsgD) {A8 A12 A16 : Option Addr} {c8 c12 c16 : Nat} (hm : MsgC w m A8 c8 A12 c12 A16 c16) (hk : m.f0 = 1) :
  Calls Tryz.prog 68 #[.agg #[.int .i64 m.f0, .int .i64 m.f1, .int .i64 m.f2, .int .i64 m.f3, .int .i64 m.f4, .int .i64 m.f5, .int .i64 m.f6, .bool m.f7, .slice A8 m.f8.length c8, .int .i64 m.f9.f0, .int .i64 m.f9.f1, .int .i64 m.f9.f2, .slice A12 m.f9.f3.length c12, .int .i64 m.f10.f0, .int .i64 m.f10.f1, .int .i64 m.f10.f2, .slice A16 m.f10.f3.length c16]] w fun e w' => BareP w m e w' := by
 have t6 : (m.f0 == 6) = false := by rw [hk]; rfl
 have t1 : (m.f0 == 1) = true := by rw [hk]; rfl
 have t2 : (m.f0 == 2) = false := by rw [hk]; rfl
 have t3 : (m.f0 == 3) = false := by rw [hk]; rfl
 have t4 : (m.f0 == 4) = false := by rw [hk]; rfl
 have t5 : (m.f0 == 5) = false := by rw [hk]; rfl
 have HK := Lib.hid hk
 clear hk
 have HM := Lib.hid hm
 clear hm
 go_enter Tryz.func68, Tryz.ntmps68
 go_upto_region 2 with fail
 obtain ⟨w0, hw, hT⟩ := bare_start w m A8 A12 A16 c8 c12 c16
 rw [← hw]
 have HT0 := Lib.hid hT
 clear hw hT
 obtain ⟨g, hg⟩ : ∃ g, w.heap.size = g := ⟨_, rfl⟩
 have HG := Lib.hid hg
 rw [hg] at HT0 ⊢
 clear hg
 obtain ⟨a0, a1, a2, a3, a4, a5, a6, a7, a8, a9, a10, a11, a12, a13, a14, a15, a16⟩ := MsBox.cell HT0.out.h.now
 have b3 : w0.cell? ⟨g + 1 + 1, 3, none⟩ = some (.int .i64 0) := (blk_cell HT0.out.y 3).trans rfl
 have z3 : w0.frozen? ⟨g + 1 + 1, 3, none⟩ = false := blk_frozen HT0.out.y 3
 have b4 : w0.cell? ⟨g + 1 + 1, 4, none⟩ = some (.int .i64 0) := (blk_cell HT0.out.y 4).trans rfl
 have z4 : w0.frozen? ⟨g + 1 + 1, 4, none⟩ = false := blk_frozen HT0.out.y 4
 have b5 : w0.cell? ⟨g + 1 + 1, 5, none⟩ = some (.int .i64 0) := (blk_cell HT0.out.y 5).trans rfl
 have z5 : w0.frozen? ⟨g + 1 + 1, 5, none⟩ = false := blk_frozen HT0.out.y 5
 have hne : g + 1 + 1 ≠ g := by omega
 have hne2 : g ≠ g + 1 + 1 := by omega
 go_upto_region 24 with fail
 have hT : Bx w (g + 1 + 1) (g + 1) 34 #[.int .i64 0, .int .i64 0, .int .i64 0, .int .i64 0, .int .i64 0, .int .i64 0, .int .i64 0, .bool false, .slice none 0 0, .int .i64 0, .int .i64 0, .int .i64 0, .slice none 0 0, .int .i64 0, .int .i64 0, .int .i64 0, .slice none 0 0] #[.int .i64 m.f0, .int .i64 m.f1, .int .i64 m.f2, .int .i64 m.f3, .int .i64 m.f4, .int .i64 m.f5, .int .i64 0, .bool false, .slice none 0 0, .int .i64 0, .int .i64 0, .int .i64 0, .slice none 0 0, .int .i64 0, .int .i64 0, .int .i64 0, .slice none 0 0] _ _ := (((HT0.out.put 3 (.int .i64 m.f3)).put 4 (.int .i64 m.f4)).put 5 (.int .i64 m.f5))
 have HT1 := Lib.hid hT
 clear hT
 obtain ⟨w1, hw⟩ : ∃ w1, (((w0.setCell ⟨g + 1 + 1, 3, none⟩ (.int .i64 m.f3)).setCell ⟨g + 1 + 1, 4, none⟩ (.int .i64 m.f4)).setCell ⟨g + 1 + 1, 5, none⟩ (.int .i64 m.f5)) = w1 := ⟨_, rfl⟩
 rw [hw] at HT1 ⊢
 clear hw
 refine wp_region_list ?_
 refine wpList_load_row rfl 34 (.tmp 4) rfl (g + 1 + 1) rfl 34 _ (0, 0) _ HT1.out.y Tryz.underlying34 rfl (by kernel_rfl) ?_
 refine wpList_store_row rfl 34 (.tmp 2) (.tmp 61) rfl (g + 1) _ rfl rfl 34 _ HT1.out.g0 (by kernel_rfl) rfl (by simp [Value.oneCell']) ?_
 go_wp2_with fail
 refine bodyPost_ret (results_ct rfl _ _ (g + 1) 34 _ (0, 0) _ rfl HT1.out.fin.1 Tryz.underlying34 rfl (by kernel_rfl)) rfl ?_
 have hik : isKind m.f0 = true := by rw [HK.out]; rfl
 refine ⟨⟨m.f0, m.f1, m.f2, m.f3, m.f4, m.f5, 0, false, [], zE, zP⟩, none, none, none, 0, 0, 0, by rw [hik]; rfl, fun _ => by unfold bareM; simp [HK.out], ⟨Nat.le_refl 0, Kd.C_nil _ _, Nat.le_refl 0, Kd.C_nil _ _, Nat.le_refl 0, Kd.C_nil _ _⟩, HT1.out.fin.2.2⟩
set_option maxHeartbeats 4000000 in
theorem plain_k2 {w : World} (m : MsgD) {A8 A12 A16 : Option Addr} {c8 c12 c16 : Nat} (hm : MsgC w m A8 c8 A12 c12 A16 c16) (hk : m.f0 = 2) :
  Calls Tryz.prog 68 #[.agg #[.int .i64 m.f0, .int .i64 m.f1, .int .i64 m.f2, .int .i64 m.f3, .int .i64 m.f4, .int .i64 m.f5, .int .i64 m.f6, .bool m.f7, .slice A8 m.f8.length c8, .int .i64 m.f9.f0, .int .i64 m.f9.f1, .int .i64 m.f9.f2, .slice A12 m.f9.f3.length c12, .int .i64 m.f10.f0, .int .i64 m.f10.f1, .int .i64 m.f10.f2, .slice A16 m.f10.f3.length c16]] w fun e w' => BareP w m e w' := by
 have t6 : (m.f0 == 6) = false := by rw [hk]; rfl
 have t1 : (m.f0 == 1) = false := by rw [hk]; rfl
 have t2 : (m.f0 == 2) = true := by rw [hk]; rfl
 have t3 : (m.f0 == 3) = false := by rw [hk]; rfl
 have t4 : (m.f0 == 4) = false := by rw [hk]; rfl
 have t5 : (m.f0 == 5) = false := by rw [hk]; rfl
 have HK := Lib.hid hk
 clear hk
 have HM := Lib.hid hm
 clear hm
 go_enter Tryz.func68, Tryz.ntmps68
 go_upto_region 2 with fail
 obtain ⟨w0, hw, hT⟩ := bare_start w m A8 A12 A16 c8 c12 c16
 rw [← hw]
 have HT0 := Lib.hid hT
 clear hw hT
 obtain ⟨g, hg⟩ : ∃ g, w.heap.size = g := ⟨_, rfl⟩
 have HG := Lib.hid hg
 rw [hg] at HT0 ⊢
 clear hg
 obtain ⟨a0, a1, a2, a3, a4, a5, a6, a7, a8, a9, a10, a11, a12, a13, a14, a15, a16⟩ := MsBox.cell HT0.out.h.now
 have b3 : w0.cell? ⟨g + 1 + 1, 3, none⟩ = some (.int .i64 0) := (blk_cell HT0.out.y 3).trans rfl
 have z3 : w0.frozen? ⟨g + 1 + 1, 3, none⟩ = false := blk_frozen HT0.out.y 3
 have b7 : w0.cell? ⟨g + 1 + 1, 7, none⟩ = some (.bool false) := (blk_cell HT0.out.y 7).trans rfl
 have z7 : w0.frozen? ⟨g + 1 + 1, 7, none⟩ = false := blk_frozen HT0.out.y 7
 have hne : g + 1 + 1 ≠ g := by omega
 have hne2 : g ≠ g + 1 + 1 := by omega
 go_upto_region 24 with fail
 have hT : Bx w (g + 1 + 1) (g + 1) 34 #[.int .i64 0, .int .i64 0, .int .i64 0, .int .i64 0, .int .i64 0, .int .i64 0, .int .i64 0, .bool false, .slice none 0 0, .int .i64 0, .int .i64 0, .int .i64 0, .slice none 0 0, .int .i64 0, .int .i64 0, .int .i64 0, .slice none 0 0] #[.int .i64 m.f0, .int .i64 m.f1, .int .i64 m.f2, .int .i64 m.f3, .int .i64 0, .int .i64 0, .int .i64 0, .bool m.f7, .slice none 0 0, .int .i64 0, .int .i64 0, .int .i64 0, .slice none 0 0, .int .i64 0, .int .i64 0, .int .i64 0, .slice none 0 0] _ _ := ((HT0.out.put 3 (.int .i64 m.f3)).put 7 (.bool m.f7))
 have HT1 := Lib.hid hT
 clear hT
 obtain ⟨w1, hw⟩ : ∃ w1, ((w0.setCell ⟨g + 1 + 1, 3, none⟩ (.int .i64 m.f3)).setCell ⟨g + 1 + 1, 7, none⟩ (.bool m.f7)) = w1 := ⟨_, rfl⟩
 rw [hw] at HT1 ⊢
 clear hw
 refine wp_region_list ?_
 refine wpList_load_row rfl 34 (.tmp 4) rfl (g + 1 + 1) rfl 34 _ (0, 0) _ HT1.out.y Tryz.underlying34 rfl (by kernel_rfl) ?_
 refine wpList_store_row rfl 34 (.tmp 2) (.tmp 61) rfl (g + 1) _ rfl rfl 34 _ HT1.out.g0 (by kernel_rfl) rfl (by simp [Value.oneCell']) ?_
 go_wp2_with fail
 refine bodyPost_ret (results_ct rfl _ _ (g + 1) 34 _ (0, 0) _ rfl HT1.out.fin.1 Tryz.underlying34 rfl (by kernel_rfl)) rfl ?_
 have hik : isKind m.f0 = true := by rw [HK.out]; rfl
 refine ⟨⟨m.f0, m.f1, m.f2, m.f3, 0, 0, 0, m.f7, [], zE, zP⟩, none, none, none, 0, 0, 0, by rw [hik]; rfl, fun _ => by unfold bareM; simp [HK.out], ⟨Nat.le_refl 0, Kd.C_nil _ _, Nat.le_refl 0, Kd.C_nil _ _, Nat.le_refl 0, Kd.C_nil _ _⟩, HT1.out.fin.2.2⟩
set_option maxHeartbeats 4000000 in
theorem plain_k3 {w : World} (m : MsgD) {A8 A12 A16 : Option Addr} {c8 c12 c16 : Nat} (hm : MsgC w m A8 c8 A12 c12 A16 c16) (hk : m.f0 = 3) :
  Calls Tryz.prog 68 #[.agg #[.int .i64 m.f0, .int .i64 m.f1, .int .i64 m.f2, .int .i64 m.f3, .int .i64 m.f4, .int .i64 m.f5, .int .i64 m.f6, .bool m.f7, .slice A8 m.f8.length c8, .int .i64 m.f9.f0, .int .i64 m.f9.f1, .int .i64 m.f9.f2, .slice A12 m.f9.f3.length c12, .int .i64 m.f10.f0, .int .i64 m.f10.f1, .int .i64 m.f10.f2, .slice A16 m.f10.f3.length c16]] w fun e w' => BareP w m e w' := by
 have t6 : (m.f0 == 6) = false := by rw [hk]; rfl
 have t1 : (m.f0 == 1) = false := by rw [hk]; rfl
 have t2 : (m.f0 == 2) = false := by rw [hk]; rfl
 have t3 : (m.f0 == 3) = true := by rw [hk]; rfl
 have t4 : (m.f0 == 4) = false := by rw [hk]; rfl
 have t5 : (m.f0 == 5) = false := by rw [hk]; rfl
 have HK := Lib.hid hk
 clear hk
 have HM := Lib.hid hm
 clear hm
 go_enter Tryz.func68, Tryz.ntmps68
 go_upto_region 2 with fail
 obtain ⟨w0, hw, hT⟩ := bare_start w m A8 A12 A16 c8 c12 c16
 rw [← hw]
 have HT0 := Lib.hid hT
 clear hw hT
 obtain ⟨g, hg⟩ : ∃ g, w.heap.size = g := ⟨_, rfl⟩
 have HG := Lib.hid hg
 rw [hg] at HT0 ⊢
 clear hg
 obtain ⟨a0, a1, a2, a3, a4, a5, a6, a7, a8, a9, a10, a11, a12, a13, a14, a15, a16⟩ := MsBox.cell HT0.out.h.now
 have b3 : w0.cell? ⟨g + 1 + 1, 3, none⟩ = some (.int .i64 0) := (blk_cell HT0.out.y 3).trans rfl
 have z3 : w0.frozen? ⟨g + 1 + 1, 3, none⟩ = false := blk_frozen HT0.out.y 3
 have b4 : w0.cell? ⟨g + 1 + 1, 4, none⟩ = some (.int .i64 0) := (blk_cell HT0.out.y 4).trans rfl
 have z4 : w0.frozen? ⟨g + 1 + 1, 4, none⟩ = false := blk_frozen HT0.out.y 4
 have b5 : w0.cell? ⟨g + 1 + 1, 5, none⟩ = some (.int .i64 0) := (blk_cell HT0.out.y 5).trans rfl
 have z5 : w0.frozen? ⟨g + 1 + 1, 5, none⟩ = false := blk_frozen HT0.out.y 5
 have b6 : w0.cell? ⟨g + 1 + 1, 6, none⟩ = some (.int .i64 0) := (blk_cell HT0.out.y 6).trans rfl
 have z6 : w0.frozen? ⟨g + 1 + 1, 6, none⟩ = false := blk_frozen HT0.out.y 6
 have b8 : w0.cell? ⟨g + 1 + 1, 8, none⟩ = some (.slice none 0 0) := (blk_cell HT0.out.y 8).trans rfl
 have z8 : w0.frozen? ⟨g + 1 + 1, 8, none⟩ = false := blk_frozen HT0.out.y 8
 have hne : g + 1 + 1 ≠ g := by omega
 have hne2 : g ≠ g + 1 + 1 := by omega
 go_upto_region 24 with fail
 have hT : Bx w (g + 1 + 1) (g + 1) 34 #[.int .i64 0, .int .i64 0, .int .i64 0, .int .i64 0, .int .i64 0, .int .i64 0, .int .i64 0, .bool false, .slice none 0 0, .int .i64 0, .int .i64 0, .int .i64 0, .slice none 0 0, .int .i64 0, .int .i64 0, .int .i64 0, .slice none 0 0] #[.int .i64 m.f0, .int .i64 m.f1, .int .i64 m.f2, .int .i64 m.f3, .int .i64 m.f4, .int .i64 m.f5, .int .i64 m.f6, .bool false, .slice A8 m.f8.length c8, .int .i64 0, .int .i64 0, .int .i64 0, .slice none 0 0, .int .i64 0, .int .i64 0, .int .i64 0, .slice none 0 0] _ _ := (((((HT0.out.put 3 (.int .i64 m.f3)).put 4 (.int .i64 m.f4)).put 5 (.int .i64 m.f5)).put 6 (.int .i64 m.f6)).put 8 (.slice A8 m.f8.length c8))
 have HT1 := Lib.hid hT
 clear hT
 obtain ⟨w1, hw⟩ : ∃ w1, (((((w0.setCell ⟨g + 1 + 1, 3, none⟩ (.int .i64 m.f3)).setCell ⟨g + 1 + 1, 4, none⟩ (.int .i64 m.f4)).setCell ⟨g + 1 + 1, 5, none⟩ (.int .i64 m.f5)).setCell ⟨g + 1 + 1, 6, none⟩ (.int .i64 m.f6)).setCell ⟨g + 1 + 1, 8, none⟩ (.slice A8 m.f8.length c8)) = w1 := ⟨_, rfl⟩
 rw [hw] at HT1 ⊢
 clear hw
 refine wp_region_list ?_
 refine wpList_load_row rfl 34 (.tmp 4) rfl (g + 1 + 1) rfl 34 _ (0, 0) _ HT1.out.y Tryz.underlying34 rfl (by kernel_rfl) ?_
 refine wpList_store_row rfl 34 (.tmp 2) (.tmp 61) rfl (g + 1) _ rfl rfl 34 _ HT1.out.g0 (by kernel_rfl) rfl (by simp [Value.oneCell']) ?_
 go_wp2_with fail
 refine bodyPost_ret (results_ct rfl _ _ (g + 1) 34 _ (0, 0) _ rfl HT1.out.fin.1 Tryz.underlying34 rfl (by kernel_rfl)) rfl ?_
 have hik : isKind m.f0 = true := by rw [HK.out]; rfl
 refine ⟨⟨m.f0, m.f1, m.f2, m.f3, m.f4, m.f5, m.f6, false, m.f8, zE, zP⟩, A8, none, none, c8, 0, 0, by rw [hik]; rfl, fun _ => by unfold bareM; simp [HK.out], ⟨HM.out.l8, Kd.C_below HM.out.g8 HT1.out.fin.2.2, Nat.le_refl 0, Kd.C_nil _ _, Nat.le_refl 0, Kd.C_nil _ _⟩, HT1.out.fin.2.2⟩
set_option maxHeartbeats 4000000 in
theorem plain_k4 {w : World} (m : MsgD) {A8 A12 A16 : Option Addr} {c8 c12 c16 : Nat} (hm : MsgC w m A8 c8 A12 c12 A16 c16) (hk : m.f0 = 4) :
  Calls Tryz.prog 68 #[.agg #[.int .i64 m.f0, .int .i64 m.f1, .int .i64 m.f2, .int .i64 m.f3, .int .i64 m.f4, .int .i64 m.f5, .int .i64 m.f6, .bool m.f7, .slice A8 m.f8.length c8, .int .i64 m.f9.f0, .int .i64 m.f9.f1, .int .i64 m.f9.f2, .slice A12 m.f9.f3.length c12, .int .i64 m.f10.f0, .int .i64 m.f10.f1, .int .i64 m.f10.f2, .slice A16 m.f10.f3.length c16]] w fun e w' => BareP w m e w' := by
 have t6 : (m.f0 == 6) = false := by rw [hk]; rfl
 have t1 : (m.f0 == 1) = false := by rw [hk]; rfl
 have t2 : (m.f0 == 2) = false := by rw [hk]; rfl
 have t3 : (m.f0 == 3) = false := by rw [hk]; rfl
 have t4 : (m.f0 == 4) = true := by rw [hk]; rfl
 have t5 : (m.f0 == 5) = false := by rw [hk]; rfl
 have HK := Lib.hid hk
 clear hk
 have HM := Lib.hid hm
 clear hm
 go_enter Tryz.func68, Tryz.ntmps68
 go_upto_region 2 with fail
 obtain ⟨w0, hw, hT⟩ := bare_start w m A8 A12 A16 c8 c12 c16
 rw [← hw]
 have HT0 := Lib.hid hT
 clear hw hT
 obtain ⟨g, hg⟩ : ∃ g, w.heap.size = g := ⟨_, rfl⟩
 have HG := Lib.hid hg
 rw [hg] at HT0 ⊢
 clear hg
 obtain ⟨a0, a1, a2, a3, a4, a5, a6, a7, a8, a9, a10, a11, a12, a13, a14, a15, a16⟩ := MsBox.cell HT0.out.h.now
 have b3 : w0.cell? ⟨g + 1 + 1, 3, none⟩ = some (.int .i64 0) := (blk_cell HT0.out.y 3).trans rfl
 have z3 : w0.frozen? ⟨g + 1 + 1, 3, none⟩ = false := blk_frozen HT0.out.y 3
 have b7 : w0.cell? ⟨g + 1 + 1, 7, none⟩ = some (.bool false) := (blk_cell HT0.out.y 7).trans rfl
 have z7 : w0.frozen? ⟨g + 1 + 1, 7, none⟩ = false := blk_frozen HT0.out.y 7
 have b4 : w0.cell? ⟨g + 1 + 1, 4, none⟩ = some (.int .i64 0) := (blk_cell HT0.out.y 4).trans rfl
 have z4 : w0.frozen? ⟨g + 1 + 1, 4, none⟩ = false := blk_frozen HT0.out.y 4
 have hne : g + 1 + 1 ≠ g := by omega
 have hne2 : g ≠ g + 1 + 1 := by omega
 go_upto_region 24 with fail
 have hT : Bx w (g + 1 + 1) (g + 1) 34 #[.int .i64 0, .int .i64 0, .int .i64 0, .int .i64 0, .int .i64 0, .int .i64 0, .int .i64 0, .bool false, .slice none 0 0, .int .i64 0, .int .i64 0, .int .i64 0, .slice none 0 0, .int .i64 0, .int .i64 0, .int .i64 0, .slice none 0 0] #[.int .i64 m.f0, .int .i64 m.f1, .int .i64 m.f2, .int .i64 m.f3, .int .i64 m.f4, .int .i64 0, .int .i64 0, .bool m.f7, .slice none 0 0, .int .i64 0, .int .i64 0, .int .i64 0, .slice none 0 0, .int .i64 0, .int .i64 0, .int .i64 0, .slice none 0 0] _ _ := (((HT0.out.put 3 (.int .i64 m.f3)).put 7 (.bool m.f7)).put 4 (.int .i64 m.f4))
 have HT1 := Lib.hid hT
 clear hT
 obtain ⟨w1, hw⟩ : ∃ w1, (((w0.setCell ⟨g + 1 + 1, 3, none⟩ (.int .i64 m.f3)).setCell ⟨g + 1 + 1, 7, none⟩ (.bool m.f7)).setCell ⟨g + 1 + 1, 4, none⟩ (.int .i64 m.f4)) = w1 := ⟨_, rfl⟩
 rw [hw] at HT1 ⊢
 clear hw
 refine wp_region_list ?_
 refine wpList_load_row rfl 34 (.tmp 4) rfl (g + 1 + 1) rfl 34 _ (0, 0) _ HT1.out.y Tryz.underlying34 rfl (by kernel_rfl) ?_
 refine wpList_store_row rfl 34 (.tmp 2) (.tmp 61) rfl (g + 1) _ rfl rfl 34 _ HT1.out.g0 (by kernel_rfl) rfl (by simp [Value.oneCell']) ?_
 go_wp2_with fail
 refine bodyPost_ret (results_ct rfl _ _ (g + 1) 34 _ (0, 0) _ rfl HT1.out.fin.1 Tryz.underlying34 rfl (by kernel_rfl)) rfl ?_
 have hik : isKind m.f0 = true := by rw [HK.out]; rfl
 refine ⟨⟨m.f0, m.f1, m.f2, m.f3, m.f4, 0, 0, m.f7, [], zE, zP⟩, none, none, none, 0, 0, 0, by rw [hik]; rfl, fun _ => by unfold bareM; simp [HK.out], ⟨Nat.le_refl 0, Kd.C_nil _ _, Nat.le_refl 0, Kd.C_nil _ _, Nat.le_refl 0, Kd.C_nil _ _⟩, HT1.out.fin.2.2⟩
set_option maxHeartbeats 4000000 in
theorem plain_k5 {w : World} (m : MsgD) {A8 A12 A16 : Option Addr} {c8 c12 c16 : Nat} (hm : MsgC w m A8 c8 A12 c12 A16 c16) (hk : m.f0 = 5) :
  Calls Tryz.prog 68 #[.agg #[.int .i64 m.f0, .int .i64 m.f1, .int .i64 m.f2, .int .i64 m.f3, .int .i64 m.f4, .int .i64 m.f5, .int .i64 m.f6, .bool m.f7, .slice A8 m.f8.length c8, .int .i64 m.f9.f0, .int .i64 m.f9.f1, .int .i64 m.f9.f2, .slice A12 m.f9.f3.length c12, .int .i64 m.f10.f0, .int .i64 m.f10.f1, .int .i64 m.f10.f2, .slice A16 m.f10.f3.length c16]] w fun e w' => BareP w m e w' := by
 have t6 : (m.f0 == 6) = false := by rw [hk]; rfl
 have t1 : (m.f0 == 1) = false := by rw [hk]; rfl
 have t2 : (m.f0 == 2) = false := by rw [hk]; rfl
 have t3 : (m.f0 == 3) = false := by rw [hk]; rfl
 have t4 : (m.f0 == 4) = false := by rw [hk]; rfl
 have t5 : (m.f0 == 5) = true := by rw [hk]; rfl
 have HK := Lib.hid hk
 clear hk
 have HM := Lib.hid hm
 clear hm
 go_enter Tryz.func68, Tryz.ntmps68
 go_upto_region 2 with fail
 obtain ⟨w0, hw, hT⟩ := bare_start w m A8 A12 A16 c8 c12 c16
 rw [← hw]
 have HT0 := Lib.hid hT
 clear hw hT
 obtain ⟨g, hg⟩ : ∃ g, w.heap.size = g := ⟨_, rfl⟩
 have HG := Lib.hid hg
 rw [hg] at HT0 ⊢
 clear hg
 obtain ⟨a0, a1, a2, a3, a4, a5, a6, a7, a8, a9, a10, a11, a12, a13, a14, a15, a16⟩ := MsBox.cell HT0.out.h.now
 have b3 : w0.cell? ⟨g + 1 + 1, 3, none⟩ = some (.int .i64 0) := (blk_cell HT0.out.y 3).trans rfl
 have z3 : w0.frozen? ⟨g + 1 + 1, 3, none⟩ = false := blk_frozen HT0.out.y 3
 have b4 : w0.cell? ⟨g + 1 + 1, 4, none⟩ = some (.int .i64 0) := (blk_cell HT0.out.y 4).trans rfl
 have z4 : w0.frozen? ⟨g + 1 + 1, 4, none⟩ = false := blk_frozen HT0.out.y 4
 have b5 : w0.cell? ⟨g + 1 + 1, 5, none⟩ = some (.int .i64 0) := (blk_cell HT0.out.y 5).trans rfl
 have z5 : w0.frozen? ⟨g + 1 + 1, 5, none⟩ = false := blk_frozen HT0.out.y 5
 have b13 : w0.cell? ⟨g + 1 + 1, 13, none⟩ = some (.int .i64 0) := (blk_cell HT0.out.y 13).trans rfl
 have z13 : w0.frozen? ⟨g + 1 + 1, 13, none⟩ = false := blk_frozen HT0.out.y 13
 have b14 : w0.cell? ⟨g + 1 + 1, 14, none⟩ = some (.int .i64 0) := (blk_cell HT0.out.y 14).trans rfl
 have z14 : w0.frozen? ⟨g + 1 + 1, 14, none⟩ = false := blk_frozen HT0.out.y 14
 have b15 : w0.cell? ⟨g + 1 + 1, 15, none⟩ = some (.int .i64 0) := (blk_cell HT0.out.y 15).trans rfl
 have z15 : w0.frozen? ⟨g + 1 + 1, 15, none⟩ = false := blk_frozen HT0.out.y 15
 have b16 : w0.cell? ⟨g + 1 + 1, 16, none⟩ = some (.slice none 0 0) := (blk_cell HT0.out.y 16).trans rfl
 have z16 : w0.frozen? ⟨g + 1 + 1, 16, none⟩ = false := blk_frozen HT0.out.y 16
 have hne : g + 1 + 1 ≠ g := by omega
 have hne2 : g ≠ g + 1 + 1 := by omega
 go_upto_region 24 with fail
 have hT : Bx w (g + 1 + 1) (g + 1) 34 #[.int .i64 0, .int .i64 0, .int .i64 0, .int .i64 0, .int .i64 0, .int .i64 0, .int .i64 0, .bool false, .slice none 0 0, .int .i64 0, .int .i64 0, .int .i64 0, .slice none 0 0, .int .i64 0, .int .i64 0, .int .i64 0, .slice none 0 0] #[.int .i64 m.f0, .int .i64 m.f1, .int .i64 m.f2, .int .i64 m.f3, .int .i64 m.f4, .int .i64 m.f5, .int .i64 0, .bool false, .slice none 0 0, .int .i64 0, .int .i64 0, .int .i64 0, .slice none 0 0, .int .i64 m.f10.f0, .int .i64 m.f10.f1, .int .i64 m.f10.f2, .slice A16 m.f10.f3.length c16] _ _ := (((((((HT0.out.put 3 (.int .i64 m.f3)).put 4 (.int .i64 m.f4)).put 5 (.int .i64 m.f5)).put 13 (.int .i64 m.f10.f0)).put 14 (.int .i64 m.f10.f1)).put 15 (.int .i64 m.f10.f2)).put 16 (.slice A16 m.f10.f3.length c16))
 have HT1 := Lib.hid hT
 clear hT
 obtain ⟨w1, hw⟩ : ∃ w1, (((((((w0.setCell ⟨g + 1 + 1, 3, none⟩ (.int .i64 m.f3)).setCell ⟨g + 1 + 1, 4, none⟩ (.int .i64 m.f4)).setCell ⟨g + 1 + 1, 5, none⟩ (.int .i64 m.f5)).setCell ⟨g + 1 + 1, 13, none⟩ (.int .i64 m.f10.f0)).setCell ⟨g + 1 + 1, 14, none⟩ (.int .i64 m.f10.f1)).setCell ⟨g + 1 + 1, 15, none⟩ (.int .i64 m.f10.f2)).setCell ⟨g + 1 + 1, 16, none⟩ (.slice A16 m.f10.f3.length c16)) = w1 := ⟨_, rfl⟩
 rw [hw] at HT1 ⊢
 clear hw
 refine wp_region_list ?_
 refine wpList_load_row rfl 34 (.tmp 4) rfl (g + 1 + 1) rfl 34 _ (0, 0) _ HT1.out.y Tryz.underlying34 rfl (by kernel_rfl) ?_
 refine wpList_store_row rfl 34 (.tmp 2) (.tmp 61) rfl (g + 1) _ rfl rfl 34 _ HT1.out.g0 (by kernel_rfl) rfl (by simp [Value.oneCell']) ?_
 go_wp2_with fail
 refine bodyPost_ret (results_ct rfl _ _ (g + 1) 34 _ (0, 0) _ rfl HT1.out.fin.1 Tryz.underlying34 rfl (by kernel_rfl)) rfl ?_
 have hik : isKind m.f0 = true := by rw [HK.out]; rfl
 refine ⟨⟨m.f0, m.f1, m.f2, m.f3, m.f4, m.f5, 0, false, [], zE, m.f10⟩, none, none, A16, 0, 0, c16, by rw [hik]; rfl, fun _ => by unfold bareM; simp [HK.out], ⟨Nat.le_refl 0, Kd.C_nil _ _, Nat.le_refl 0, Kd.C_nil _ _, HM.out.l16, Kd.C_below HM.out.g16 HT1.out.fin.2.2⟩, HT1.out.fin.2.2⟩
set_option maxHeartbeats 4000000 in
theorem plain_k0 {w : World} (m : MsgD) {A8 A12 A16 : Option Addr} {c8 c12 c16 : Nat} (hm : MsgC w m A8 c8 A12 c12 A16 c16) (hk : isKind m.f0 = false) :
  Calls Tryz.prog 68 #[.agg #[.int .i64 m.f0, .int .i64 m.f1, .int .i64 m.f2, .int .i64 m.f3, .int .i64 m.f4, .int .i64 m.f5, .int .i64 m.f6, .bool m.f7, .slice A8 m.f8.length c8, .int .i64 m.f9.f0, .int .i64 m.f9.f1, .int .i64 m.f9.f2, .slice A12 m.f9.f3.length c12, .int .i64 m.f10.f0, .int .i64 m.f10.f1, .int .i64 m.f10.f2, .slice A16 m.f10.f3.length c16]] w fun e w' => BareP w m e w' := by
 have t6 : (m.f0 == 6) = false := by rw [beq_eq_false_iff_ne]; intro h; rw [h] at hk; cases hk
 have t1 : (m.f0 == 1) = false := by rw [beq_eq_false_iff_ne]; intro h; rw [h] at hk; cases hk
 have t2 : (m.f0 == 2) = false := by rw [beq_eq_false_iff_ne]; intro h; rw [h] at hk; cases hk
 have t3 : (m.f0 == 3) = false := by rw [beq_eq_false_iff_ne]; intro h; rw [h] at hk; cases hk
 have t4 : (m.f0 == 4) = false := by rw [beq_eq_false_iff_ne]; intro h; rw [h] at hk; cases hk
 have t5 : (m.f0 == 5) = false := by rw [beq_eq_false_iff_ne]; intro h; rw [h] at hk; cases hk
 have HK := Lib.hid hk
 clear hk
 have HM := Lib.hid hm
 clear hm
 go_enter Tryz.func68, Tryz.ntmps68
 go_upto_region 2 with fail
 obtain ⟨w0, hw, hT⟩ := bare_start w m A8 A12 A16 c8 c12 c16
 rw [← hw]
 have HT0 := Lib.hid hT
 clear hw hT
 obtain ⟨g, hg⟩ : ∃ g, w.heap.size = g := ⟨_, rfl⟩
 have HG := Lib.hid hg
 rw [hg] at HT0 ⊢
 clear hg
 obtain ⟨a0, a1, a2, a3, a4, a5, a6, a7, a8, a9, a10, a11, a12, a13, a14, a15, a16⟩ := MsBox.cell HT0.out.h.now
 have b3 : w0.cell? ⟨g + 1 + 1, 3, none⟩ = some (.int .i64 0) := (blk_cell HT0.out.y 3).trans rfl
 have z3 : w0.frozen? ⟨g + 1 + 1, 3, none⟩ = false := blk_frozen HT0.out.y 3
 have hne : g + 1 + 1 ≠ g := by omega
 have hne2 : g ≠ g + 1 + 1 := by omega
 go_upto_region 7 with fail
 have HT1 := Lib.hid (HT0.out.set 3 (.int .i64 m.f3) #[.int .i64 m.f0, .int .i64 m.f1, .int .i64 m.f2, .int .i64 m.f3, .int .i64 0, .int .i64 0, .int .i64 0, .bool false, .slice none 0 0, .int .i64 0, .int .i64 0, .int .i64 0, .slice none 0 0, .int .i64 0, .int .i64 0, .int .i64 0, .slice none 0 0] (blk_put HT0.out.y 3 _ rfl))
 obtain ⟨w1, hw⟩ : ∃ w1, w0.setCell ⟨g + 1 + 1, 3, none⟩ (.int .i64 m.f3) = w1 := ⟨_, rfl⟩
 rw [hw] at HT1 ⊢
 clear hw
 refine wp_region_list ?_
 refine wpList_load_row rfl 34 (.tmp 4) rfl (g + 1 + 1) rfl 34 _ (0, 0) _ HT1.out.y Tryz.underlying34 rfl (by kernel_rfl) ?_
 refine wpList_store_row rfl 34 (.tmp 2) (.tmp 24) rfl (g + 1) #[.int .i64 m.f0, .int .i64 m.f1, .int .i64 m.f2, .int .i64 m.f3, .int .i64 0, .int .i64 0, .int .i64 0, .bool false, .slice none 0 0, .int .i64 0, .int .i64 0, .int .i64 0, .slice none 0 0, .int .i64 0, .int .i64 0, .int .i64 0, .slice none 0 0] rfl rfl 34 _ HT1.out.g0 (by kernel_rfl) rfl (by simp [Value.oneCell']) ?_
 go_wp2_with fail
 refine bodyPost_ret (results_ct rfl _ _ (g + 1) 34 _ (0, 0) _ rfl HT1.out.fin.1 Tryz.underlying34 rfl (by kernel_rfl)) rfl ?_
 exact ⟨⟨m.f0, m.f1, m.f2, m.f3, 0, 0, 0, false, [], zE, zP⟩, none, none, none, 0, 0, 0, by rw [HK.out]; rfl, fun h => (by rw [HK.out] at h; cases h), ⟨Nat.le_refl 0, Kd.C_nil _ _, Nat.le_refl 0, Kd.C_nil _ _, Nat.le_refl 0, Kd.C_nil _ _⟩, HT1.out.fin.2.2⟩
theorem plain_is {w : World} (m : MsgD) {A8 A12 A16 : Option Addr} {c8 c12 c16 : Nat} (hm : MsgC w m A8 c8 A12 c12 A16 c16) :
  Calls Tryz.prog 68 #[.agg #[.int .i64 m.f0, .int .i64 m.f1, .int .i64 m.f2, .int .i64 m.f3, .int .i64 m.f4, .int .i64 m.f5, .int .i64 m.f6, .bool m.f7, .slice A8 m.f8.length c8, .int .i64 m.f9.f0, .int .i64 m.f9.f1, .int .i64 m.f9.f2, .slice A12 m.f9.f3.length c12, .int .i64 m.f10.f0, .int .i64 m.f10.f1, .int .i64 m.f10.f2, .slice A16 m.f10.f3.length c16]] w fun e w' => BareP w m e w' := by
 cases hk : isKind m.f0 with
 | false => exact plain_k0 m hm hk
 | true =>
  have h2 : 1 ≤ m.f0 ∧ m.f0 ≤ 6 := by
   unfold isKind at hk
   rw [Bool.and_eq_true, decide_eq_true_eq, decide_eq_true_eq] at hk
   exact hk
  by_cases h1 : m.f0 = 1
  ·exact plain_k1 m hm h1
  ·by_cases h3 : m.f0 = 2
   ·exact plain_k2 m hm h3
   ·by_cases h4 : m.f0 = 3
    ·exact plain_k3 m hm h4
    ·by_cases h5 : m.f0 = 4
     ·exact plain_k4 m hm h5
     ·by_cases h6 : m.f0 = 5
      ·exact plain_k5 m hm h6
      ·exact plain_k6 m hm (by omega)
end Go.Proofs.YtgiefblcckikeaaGreat.M
end

section
/- Which messages are the same: record.SameMsg, the reference's SameMsg (printed by gensame04.py). -/
attribute [local irreducible] Go.wpStill
namespace Go.Proofs.YtgiefblcckikeaaGreat.M
open Go.RowKit Go.Proofs.YtgiefblcckikeaaGreatW.PrintWords Go.Proofs.YtgiefblcckikeaaGreatW.PrintLast Go.Proofs.YtgiefblcckikeaaGreatW.PrintMore Go.Proofs.YtgiefblcckikeaaGreat.G
set_option maxHeartbeats 1000000 in
theorem refSamePt_is {w : World} (a b : PartD) {A B : Option Addr} {c d : Nat} (hc : a.f3.length ≤ c) (ha : Kd.C (Kd.int .u8) w A a.f3.length a.f3) (hd : b.f3.length ≤ d) (hb : Kd.C (Kd.int .u8) w B b.f3.length b.f3) :
  Calls Tryz.prog 65 #[.agg #[.int .i64 a.f0, .int .i64 a.f1, .int .i64 a.f2, .slice A a.f3.length c], .agg #[.int .i64 b.f0, .int .i64 b.f1, .int .i64 b.f2, .slice B b.f3.length d]] w fun e w' => e = .returned (.bool (eqPt a b)) ∧ Below w.heap.size w w' := by
 have HBX := Lib.hid (show Below w.heap.size w ((w.alloc (.cells #[.int .i64 a.f0, .int .i64 a.f1, .int .i64 a.f2, .slice A a.f3.length c] 32)).alloc (.cells #[.int .i64 b.f0, .int .i64 b.f1, .int .i64 b.f2, .slice B b.f3.length d] 32)) from ((Below.refl _ _).alloc (Nat.le_refl _) _).alloc (by simp) _)
 have HA := Lib.hid (Kd.C_below ha HBX.out); have HB := Lib.hid (Kd.C_below hb HBX.out)
 have hz1 : (w.alloc (.cells #[.int .i64 a.f0, .int .i64 a.f1, .int .i64 a.f2, .slice A a.f3.length c] 32)).heap.size = w.heap.size + 1 := by simp
 have hx : ((w.alloc (.cells #[.int .i64 a.f0, .int .i64 a.f1, .int .i64 a.f2, .slice A a.f3.length c] 32)).alloc (.cells #[.int .i64 b.f0, .int .i64 b.f1, .int .i64 b.f2, .slice B b.f3.length d] 32)).heap[w.heap.size]? = some (.cells #[.int .i64 a.f0, .int .i64 a.f1, .int .i64 a.f2, .slice A a.f3.length c] 32) := (((Below.refl _ (w.alloc (.cells #[.int .i64 a.f0, .int .i64 a.f1, .int .i64 a.f2, .slice A a.f3.length c] 32))).alloc (Nat.le_refl _) _).block w.heap.size (by omega)).trans (heap_alloc_new w _)
 have hy : ((w.alloc (.cells #[.int .i64 a.f0, .int .i64 a.f1, .int .i64 a.f2, .slice A a.f3.length c] 32)).alloc (.cells #[.int .i64 b.f0, .int .i64 b.f1, .int .i64 b.f2, .slice B b.f3.length d] 32)).heap[w.heap.size + 1]? = some (.cells #[.int .i64 b.f0, .int .i64 b.f1, .int .i64 b.f2, .slice B b.f3.length d] 32) := by rw [← hz1]; exact heap_alloc_new _ _
 have HX := Lib.hid hx; have HY := Lib.hid hy
 obtain ⟨q0, hq0⟩ : ∃ q0 : Bool, (a.f0 == b.f0) = q0 := ⟨_, rfl⟩
 obtain ⟨q1, hq1⟩ : ∃ q1 : Bool, (a.f1 == b.f1) = q1 := ⟨_, rfl⟩
 obtain ⟨q2, hq2⟩ : ∃ q2 : Bool, (a.f2 == b.f2) = q2 := ⟨_, rfl⟩
 obtain ⟨q3, hq3⟩ : ∃ q3 : Bool, ((strOfNums a.f3).toList == (strOfNums b.f3).toList) = q3 := ⟨_, rfl⟩
 obtain ⟨r, hr⟩ : ∃ r, eqPt a b = r := ⟨_, rfl⟩
 rw [hr]
 have HR := Lib.hid (show r = (q0 && (q1 && (q2 && q3))) by rw [← hr, ← hq0, ← hq1, ← hq2, ← hq3]; rfl)
 clear hr ha hb hc hd hx hy hz1
 go_enter Tryz.func65, Tryz.ntmps65
 go_upto_region 1 with fail
 obtain ⟨w1, hw1⟩ : ∃ w1, (w.alloc (.cells #[.int .i64 a.f0, .int .i64 a.f1, .int .i64 a.f2, .slice A a.f3.length c] 32)).alloc (.cells #[.int .i64 b.f0, .int .i64 b.f1, .int .i64 b.f2, .slice B b.f3.length d] 32) = w1 := ⟨_, rfl⟩
 obtain ⟨g, hg⟩ : ∃ g, w.heap.size = g := ⟨_, rfl⟩
 rw [hw1]
 rw [hw1] at HBX HX HY HA HB
 rw [hg] at HX HY ⊢
 have HG := Lib.hid hg
 clear hw1 hg
 have hcv3 := Kd.C_string (P := Tryz.prog) (A := A) (c := c) Tryz.underlying23 Tryz.underlying5 Tryz.underlying9 HA.out
 have hcv4 := Kd.C_string (P := Tryz.prog) (A := B) (c := d) Tryz.underlying23 Tryz.underlying5 Tryz.underlying9 HB.out
 have a0 : w1.cell? ⟨g, 0, none⟩ = some (.int .i64 a.f0) := (blk_cell HX.out 0).trans rfl
 have b0 : w1.cell? ⟨g + 1, 0, none⟩ = some (.int .i64 b.f0) := (blk_cell HY.out 0).trans rfl
 have a1 : w1.cell? ⟨g, 1, none⟩ = some (.int .i64 a.f1) := (blk_cell HX.out 1).trans rfl
 have b1 : w1.cell? ⟨g + 1, 1, none⟩ = some (.int .i64 b.f1) := (blk_cell HY.out 1).trans rfl
 have a2 : w1.cell? ⟨g, 2, none⟩ = some (.int .i64 a.f2) := (blk_cell HX.out 2).trans rfl
 have b2 : w1.cell? ⟨g + 1, 2, none⟩ = some (.int .i64 b.f2) := (blk_cell HY.out 2).trans rfl
 have a3 : w1.cell? ⟨g, 3, none⟩ = some (.slice A a.f3.length c) := (blk_cell HX.out 3).trans rfl
 have b3 : w1.cell? ⟨g + 1, 3, none⟩ = some (.slice B b.f3.length d) := (blk_cell HY.out 3).trans rfl
 refine wp_region_list ?_
 refine with_fin (fun a' W => a'.tmps[4]? = some (.bool r) ∧ a'.defers = [] ∧ Below w.heap.size w W) (fun a' W h => ?_) (fun HF => ?_)
 ·obtain ⟨h1, h2, h3⟩ := h
  refine ‹∀ (a : Act) (w : World), Code.wp Tryz.prog Code.ret _ a w → _› _ _ ?_
  exact wp_ret (bodyPost_ret (v := .bool r) (results_slot rfl h1) h2 ⟨by first | rfl | (rw [HG.out]; rfl), by first | exact h3 | (rw [HG.out]; exact h3)⟩)
 simp only [List.append_eq, List.cons_append, List.nil_append, List.take_succ_cons, List.take_zero, List.drop_succ_cons, List.drop_zero]
 refine wpList_cut 5 ?_
 simp only [List.append_eq, List.cons_append, List.nil_append, List.take_succ_cons, List.take_zero, List.drop_succ_cons, List.drop_zero]
 go_wp2_with fail
 refine Halt.mk ?_
 cases q0 with
 | false => exact chain_to 33 4 false [(9, some false)] (by kernel_rfl) (Knows.cons rfl (Knows.nil _)) (Nat.le_refl 33) (fun a' h1 h2 => HF.out a' _ ⟨by rw [h1, HR.out]; simp, h2, HBX.out⟩)
 | true =>
  refine wpList_cut 6 ?_
  simp only [List.append_eq, List.cons_append, List.nil_append, List.take_succ_cons, List.take_zero, List.drop_succ_cons, List.drop_zero]
  go_wp2_with fail
  refine Halt.mk ?_
  cases q1 with
  | false => exact chain_to 33 4 false [(10, some true), (15, some false)] (by kernel_rfl) (Knows.cons rfl (Knows.cons rfl (Knows.nil _))) (Nat.le_refl 33) (fun a' h1 h2 => HF.out a' _ ⟨by rw [h1, HR.out]; simp, h2, HBX.out⟩)
  | true =>
   refine wpList_cut 7 ?_
   simp only [List.append_eq, List.cons_append, List.nil_append, List.take_succ_cons, List.take_zero, List.drop_succ_cons, List.drop_zero]
   go_wp2_with fail
   refine Halt.mk ?_
   cases q2 with
   | false => exact chain_to 33 4 false [(17, some true), (22, some false)] (by kernel_rfl) (Knows.cons rfl (Knows.cons rfl (Knows.nil _))) (Nat.le_refl 33) (fun a' h1 h2 => HF.out a' _ ⟨by rw [h1, HR.out]; simp, h2, HBX.out⟩)
   | true =>
    refine wpList_cut 9 ?_
    simp only [List.append_eq, List.cons_append, List.nil_append, List.take_succ_cons, List.take_zero, List.drop_succ_cons, List.drop_zero]
    go_wp2_with fail
    refine Halt.mk ?_
    cases q3 with
    | false => exact chain_to 33 4 false [(24, some true), (31, some false)] (by kernel_rfl) (Knows.cons rfl (Knows.cons rfl (Knows.nil _))) (Nat.le_refl 33) (fun a' h1 h2 => HF.out a' _ ⟨by rw [h1, HR.out]; simp, h2, HBX.out⟩)
    | true => exact chain_to 33 4 true [(24, some true), (31, some true)] (by kernel_rfl) (Knows.cons rfl (Knows.cons rfl (Knows.nil _))) (Nat.le_refl 33) (fun a' h1 h2 => HF.out a' _ ⟨by rw [h1, HR.out]; simp, h2, HBX.out⟩)
set_option maxHeartbeats 4000000 in
theorem refSameMs_is {w : World} (m n : MsgD) {A8 A12 A16 B8 B12 B16 : Option Addr} {c8 c12 c16 d8 d12 d16 : Nat} (hm : MsgC w m A8 c8 A12 c12 A16 c16) (hn : MsgC w n B8 d8 B12 d12 B16 d16) :
  Calls Tryz.prog 28 #[.agg (msgCells m A8 c8 A12 c12 A16 c16), .agg (msgCells n B8 d8 B12 d12 B16 d16)] w fun e w' => e = .returned (.bool (eqMs m n)) ∧ Below w.heap.size w w' := by
 have hb1 : Below w.heap.size w ((w.alloc (.cells (msgCells m A8 c8 A12 c12 A16 c16) 34)).alloc (.cells (msgCells n B8 d8 B12 d12 B16 d16) 34)) := ((Below.refl _ _).alloc (Nat.le_refl _) _).alloc (by simp) _
 have hz1 : (w.alloc (.cells (msgCells m A8 c8 A12 c12 A16 c16) 34)).heap.size = w.heap.size + 1 := by simp
 have hx : MsBox ((w.alloc (.cells (msgCells m A8 c8 A12 c12 A16 c16) 34)).alloc (.cells (msgCells n B8 d8 B12 d12 B16 d16) 34)) w.heap.size m A8 c8 A12 c12 A16 c16 := (((Below.refl _ (w.alloc (.cells (msgCells m A8 c8 A12 c12 A16 c16) 34))).alloc (Nat.le_refl _) _).block w.heap.size (by omega)).trans (heap_alloc_new w _)
 have hy : MsBox ((w.alloc (.cells (msgCells m A8 c8 A12 c12 A16 c16) 34)).alloc (.cells (msgCells n B8 d8 B12 d12 B16 d16) 34)) (w.heap.size + 1) n B8 d8 B12 d12 B16 d16 := by rw [← hz1]; exact heap_alloc_new _ _
 have HB := Lib.hid hb1; have HX := Lib.hid hx; have HY := Lib.hid hy; have HM := Lib.hid (hm.below hb1); have HN := Lib.hid (hn.below hb1)
 clear hm hn hb1 hz1 hx hy
 obtain ⟨r, hr⟩ : ∃ r, eqMs m n = r := ⟨_, rfl⟩
 have HR0 := Lib.hid hr.symm
 rw [hr]
 clear hr
 obtain ⟨q0, hq0⟩ : ∃ q0 : Bool, (m.f0 == n.f0) = q0 := ⟨_, rfl⟩
 obtain ⟨q1, hq1⟩ : ∃ q1 : Bool, (m.f1 == n.f1) = q1 := ⟨_, rfl⟩
 obtain ⟨q2, hq2⟩ : ∃ q2 : Bool, (m.f2 == n.f2) = q2 := ⟨_, rfl⟩
 obtain ⟨q3, hq3⟩ : ∃ q3 : Bool, (m.f3 == n.f3) = q3 := ⟨_, rfl⟩
 obtain ⟨q4, hq4⟩ : ∃ q4 : Bool, (m.f4 == n.f4) = q4 := ⟨_, rfl⟩
 obtain ⟨q5, hq5⟩ : ∃ q5 : Bool, (m.f5 == n.f5) = q5 := ⟨_, rfl⟩
 obtain ⟨q6, hq6⟩ : ∃ q6 : Bool, (m.f6 == n.f6) = q6 := ⟨_, rfl⟩
 obtain ⟨q7, hq7⟩ : ∃ q7 : Bool, (m.f7 == n.f7) = q7 := ⟨_, rfl⟩
 obtain ⟨q8, hq8⟩ : ∃ q8 : Bool, eqTrs m.f8 n.f8 = q8 := ⟨_, rfl⟩
 obtain ⟨q9, hq9⟩ : ∃ q9 : Bool, eqEn m.f9.f0 m.f9.f1 m.f9.f2 m.f9.f3 n.f9.f0 n.f9.f1 n.f9.f2 n.f9.f3 = q9 := ⟨_, rfl⟩
 obtain ⟨q10, hq10⟩ : ∃ q10 : Bool, eqPt m.f10 n.f10 = q10 := ⟨_, rfl⟩
 have HR := Lib.hid (show r = (q0 && (q1 && (q2 && (q3 && (q4 && (q5 && (q6 && (q7 && (q8 && (q9 && q10)))))))))) by rw [HR0.out, ← hq0, ← hq1, ← hq2, ← hq3, ← hq4, ← hq5, ← hq6, ← hq7, ← hq8, ← hq9, ← hq10]; rfl)
 have HQ8 := Lib.hid hq8; have HQ9 := Lib.hid hq9; have HQ10 := Lib.hid hq10
 clear hq8 hq9 hq10 HR0
 go_enter Tryz.func28, Tryz.ntmps28
 go_upto_region 1 with fail
 obtain ⟨w1, hw1⟩ : ∃ w1, (w.alloc (.cells (msgCells m A8 c8 A12 c12 A16 c16) 34)).alloc (.cells (msgCells n B8 d8 B12 d12 B16 d16) 34) = w1 := ⟨_, rfl⟩
 obtain ⟨g, hg⟩ : ∃ g, w.heap.size = g := ⟨_, rfl⟩
 rw [hw1]
 rw [hw1] at HB HX HY HM HN
 rw [hg] at HX HY ⊢
 have HG := Lib.hid hg
 clear hw1 hg
 obtain ⟨a0, a1, a2, a3, a4, a5, a6, a7, a8, a9, a10, a11, a12, a13, a14, a15, a16⟩ := HX.out.cell
 obtain ⟨b0, b1, b2, b3, b4, b5, b6, b7, b8, b9, b10, b11, b12, b13, b14, b15, b16⟩ := HY.out.cell
 refine wp_region_list ?_
 refine with_fin (fun a' W => a'.tmps[4]? = some (.bool r) ∧ a'.defers = [] ∧ Below w.heap.size w W) (fun a' W h => ?_) (fun HF => ?_)
 ·obtain ⟨h1, h2, h3⟩ := h
  refine ‹∀ (a : Act) (w : World), Code.wp Tryz.prog Code.ret _ a w → _› _ _ ?_
  exact wp_ret (bodyPost_ret (v := .bool r) (results_slot rfl h1) h2 ⟨by first | rfl | (rw [HG.out]; rfl), by first | exact h3 | (rw [HG.out]; exact h3)⟩)
 simp only [List.append_eq, List.cons_append, List.nil_append, List.take_succ_cons, List.take_zero, List.drop_succ_cons, List.drop_zero]
 refine wpList_cut 5 ?_
 simp only [List.append_eq, List.cons_append, List.nil_append, List.take_succ_cons, List.take_zero, List.drop_succ_cons, List.drop_zero]
 go_wp2_with fail
 refine Halt.mk ?_
 cases q0 with
 | false => exact chain_to 80 4 false [(9, some false)] (by kernel_rfl) (Knows.cons rfl (Knows.nil _)) (Nat.le_refl 80) (fun a' h1 h2 => HF.out a' _ ⟨by rw [h1, HR.out]; simp, h2, HB.out⟩)
 | true =>
  refine wpList_cut 6 ?_
  simp only [List.append_eq, List.cons_append, List.nil_append, List.take_succ_cons, List.take_zero, List.drop_succ_cons, List.drop_zero]
  go_wp2_with fail
  refine Halt.mk ?_
  cases q1 with
  | false => exact chain_to 80 4 false [(10, some true), (15, some false)] (by kernel_rfl) (Knows.cons rfl (Knows.cons rfl (Knows.nil _))) (Nat.le_refl 80) (fun a' h1 h2 => HF.out a' _ ⟨by rw [h1, HR.out]; simp, h2, HB.out⟩)
  | true =>
   refine wpList_cut 7 ?_
   simp only [List.append_eq, List.cons_append, List.nil_append, List.take_succ_cons, List.take_zero, List.drop_succ_cons, List.drop_zero]
   go_wp2_with fail
   refine Halt.mk ?_
   cases q2 with
   | false => exact chain_to 80 4 false [(17, some true), (22, some false)] (by kernel_rfl) (Knows.cons rfl (Knows.cons rfl (Knows.nil _))) (Nat.le_refl 80) (fun a' h1 h2 => HF.out a' _ ⟨by rw [h1, HR.out]; simp, h2, HB.out⟩)
   | true =>
    refine wpList_cut 7 ?_
    simp only [List.append_eq, List.cons_append, List.nil_append, List.take_succ_cons, List.take_zero, List.drop_succ_cons, List.drop_zero]
    go_wp2_with fail
    refine Halt.mk ?_
    cases q3 with
    | false => exact chain_to 80 4 false [(24, some true), (29, some false)] (by kernel_rfl) (Knows.cons rfl (Knows.cons rfl (Knows.nil _))) (Nat.le_refl 80) (fun a' h1 h2 => HF.out a' _ ⟨by rw [h1, HR.out]; simp, h2, HB.out⟩)
    | true =>
     refine wpList_cut 7 ?_
     simp only [List.append_eq, List.cons_append, List.nil_append, List.take_succ_cons, List.take_zero, List.drop_succ_cons, List.drop_zero]
     go_wp2_with fail
     refine Halt.mk ?_
     cases q4 with
     | false => exact chain_to 80 4 false [(31, some true), (36, some false)] (by kernel_rfl) (Knows.cons rfl (Knows.cons rfl (Knows.nil _))) (Nat.le_refl 80) (fun a' h1 h2 => HF.out a' _ ⟨by rw [h1, HR.out]; simp, h2, HB.out⟩)
     | true =>
      refine wpList_cut 7 ?_
      simp only [List.append_eq, List.cons_append, List.nil_append, List.take_succ_cons, List.take_zero, List.drop_succ_cons, List.drop_zero]
      go_wp2_with fail
      refine Halt.mk ?_
      cases q5 with
      | false => exact chain_to 80 4 false [(38, some true), (43, some false)] (by kernel_rfl) (Knows.cons rfl (Knows.cons rfl (Knows.nil _))) (Nat.le_refl 80) (fun a' h1 h2 => HF.out a' _ ⟨by rw [h1, HR.out]; simp, h2, HB.out⟩)
      | true =>
       refine wpList_cut 7 ?_
       simp only [List.append_eq, List.cons_append, List.nil_append, List.take_succ_cons, List.take_zero, List.drop_succ_cons, List.drop_zero]
       go_wp2_with fail
       refine Halt.mk ?_
       cases q6 with
       | false => exact chain_to 80 4 false [(45, some true), (50, some false)] (by kernel_rfl) (Knows.cons rfl (Knows.cons rfl (Knows.nil _))) (Nat.le_refl 80) (fun a' h1 h2 => HF.out a' _ ⟨by rw [h1, HR.out]; simp, h2, HB.out⟩)
       | true =>
        refine wpList_cut 7 ?_
        simp only [List.append_eq, List.cons_append, List.nil_append, List.take_succ_cons, List.take_zero, List.drop_succ_cons, List.drop_zero]
        go_wp2_with fail
        refine Halt.mk ?_
        cases q7 with
        | false => exact chain_to 80 4 false [(52, some true), (57, some false)] (by kernel_rfl) (Knows.cons rfl (Knows.cons rfl (Knows.nil _))) (Nat.le_refl 80) (fun a' h1 h2 => HF.out a' _ ⟨by rw [h1, HR.out]; simp, h2, HB.out⟩)
        | true =>
         refine wpList_cut 7 ?_
         simp only [List.append_eq, List.cons_append, List.nil_append, List.take_succ_cons, List.take_zero, List.drop_succ_cons, List.drop_zero]
         go_wp2_with fail
         refine (refSameTrs_is A8 B8 c8 d8 m.f8 n.f8 w1 HM.out.g8 HN.out.g8).mono ?_
         rw [HQ8.out]
         rintro e w2 ⟨rfl, hb⟩
         have HB2 := Lib.hid (HB.out.trans (hb.mono HB.out.size)); have HX2 := Lib.hid (HX.out.below hb); have HY2 := Lib.hid (HY.out.below hb); have HM2 := Lib.hid (HM.out.below hb); have HN2 := Lib.hid (HN.out.below hb)
         clear hb HB HX HY HM HN a0 a1 a2 a3 a4 a5 a6 a7 a8 a9 a10 a11 a12 a13 a14 a15 a16 b0 b1 b2 b3 b4 b5 b6 b7 b8 b9 b10 b11 b12 b13 b14 b15 b16
         obtain ⟨a0, a1, a2, a3, a4, a5, a6, a7, a8, a9, a10, a11, a12, a13, a14, a15, a16⟩ := HX2.out.cell
         obtain ⟨b0, b1, b2, b3, b4, b5, b6, b7, b8, b9, b10, b11, b12, b13, b14, b15, b16⟩ := HY2.out.cell
         go_wp2_with fail
         refine Halt.mk ?_
         cases q8 with
         | false => exact chain_to 80 4 false [(59, some true), (64, some false)] (by kernel_rfl) (Knows.cons rfl (Knows.cons rfl (Knows.nil _))) (Nat.le_refl 80) (fun a' h1 h2 => HF.out a' _ ⟨by rw [h1, HR.out]; simp, h2, HB2.out⟩)
         | true =>
          refine wpList_cut 7 ?_
          simp only [List.append_eq, List.cons_append, List.nil_append, List.take_succ_cons, List.take_zero, List.drop_succ_cons, List.drop_zero]
          go_wp2_with fail
          refine (refSameEn_is m.f9.f0 m.f9.f1 m.f9.f2 A12 c12 m.f9.f3 n.f9.f0 n.f9.f1 n.f9.f2 B12 d12 n.f9.f3 w2 HM2.out.g12 HM2.out.l12 HN2.out.g12 HN2.out.l12).mono ?_
          rw [HQ9.out]
          rintro e w3 ⟨rfl, hb⟩
          have HB3 := Lib.hid (HB2.out.trans (hb.mono HB2.out.size)); have HX3 := Lib.hid (HX2.out.below hb); have HY3 := Lib.hid (HY2.out.below hb); have HM3 := Lib.hid (HM2.out.below hb); have HN3 := Lib.hid (HN2.out.below hb)
          clear hb HB2 HX2 HY2 HM2 HN2 a0 a1 a2 a3 a4 a5 a6 a7 a8 a9 a10 a11 a12 a13 a14 a15 a16 b0 b1 b2 b3 b4 b5 b6 b7 b8 b9 b10 b11 b12 b13 b14 b15 b16
          obtain ⟨a0, a1, a2, a3, a4, a5, a6, a7, a8, a9, a10, a11, a12, a13, a14, a15, a16⟩ := HX3.out.cell
          obtain ⟨b0, b1, b2, b3, b4, b5, b6, b7, b8, b9, b10, b11, b12, b13, b14, b15, b16⟩ := HY3.out.cell
          go_wp2_with fail
          refine Halt.mk ?_
          cases q9 with
          | false => exact chain_to 80 4 false [(66, some true), (71, some false)] (by kernel_rfl) (Knows.cons rfl (Knows.cons rfl (Knows.nil _))) (Nat.le_refl 80) (fun a' h1 h2 => HF.out a' _ ⟨by rw [h1, HR.out]; simp, h2, HB3.out⟩)
          | true =>
           refine wpList_cut 7 ?_
           simp only [List.append_eq, List.cons_append, List.nil_append, List.take_succ_cons, List.take_zero, List.drop_succ_cons, List.drop_zero]
           go_wp2_with fail
           refine (refSamePt_is m.f10 n.f10 HM3.out.l16 HM3.out.g16 HN3.out.l16 HN3.out.g16).mono ?_
           rw [HQ10.out]
           rintro e w4 ⟨rfl, hb⟩
           have HB4 := Lib.hid (HB3.out.trans (hb.mono HB3.out.size)); have HX4 := Lib.hid (HX3.out.below hb); have HY4 := Lib.hid (HY3.out.below hb); have HM4 := Lib.hid (HM3.out.below hb); have HN4 := Lib.hid (HN3.out.below hb)
           clear hb HB3 HX3 HY3 HM3 HN3 a0 a1 a2 a3 a4 a5 a6 a7 a8 a9 a10 a11 a12 a13 a14 a15 a16 b0 b1 b2 b3 b4 b5 b6 b7 b8 b9 b10 b11 b12 b13 b14 b15 b16
           go_wp2_with fail
           refine Halt.mk ?_
           cases q10 with
           | false => exact chain_to 80 4 false [(73, some true), (78, some false)] (by kernel_rfl) (Knows.cons rfl (Knows.cons rfl (Knows.nil _))) (Nat.le_refl 80) (fun a' h1 h2 => HF.out a' _ ⟨by rw [h1, HR.out]; simp, h2, HB4.out⟩)
           | true => exact chain_to 80 4 true [(73, some true), (78, some true)] (by kernel_rfl) (Knows.cons rfl (Knows.cons rfl (Knows.nil _))) (Nat.le_refl 80) (fun a' h1 h2 => HF.out a' _ ⟨by rw [h1, HR.out]; simp, h2, HB4.out⟩)
end Go.Proofs.YtgiefblcckikeaaGreat.M
end

section
/- The reference's words on which messages may be. -/
attribute [local irreducible] Go.wpStill
namespace Go.Proofs.YtgiefblcckikeaaGreat.M
open Go.RowKit Go.Proofs.YtgiefblcckikeaaGreatW.PrintWords Go.Proofs.YtgiefblcckikeaaGreatW.PrintLast Go.Proofs.YtgiefblcckikeaaGreatW.PrintMore Go.Proofs.YtgiefblcckikeaaGreat.G
theorem dec_comm {α : Type} [DecidableEq α] (a b : α) : decide (a = b) = decide (b = a) := decide_eq_decide.2 ⟨Eq.symm, Eq.symm⟩
theorem eqS_comm (a b : List Int) : eqS a b = eqS b a := by unfold eqS; exact BEq.comm
theorem eqTx_comm (a b : TxD) : eqTx a b = eqTx b a := by
 unfold eqTx
 rw [BEq.comm (a := a.f0), BEq.comm (a := a.f1), eqS_comm, dec_comm a.f3, dec_comm a.f4, dec_comm a.f5]
theorem eqTs_comm : ∀ a b : List TxD, eqTs a b = eqTs b a
 | [], [] => rfl
 | [], _ :: _ => rfl
 | _ :: _, [] => rfl
 | x :: a, y :: b => by unfold eqTs; rw [eqTx_comm, eqTs_comm a b]
theorem eqEn_comm (k f n : Int) (l : List TxD) (k' f' n' : Int) (l' : List TxD) : eqEn k f n l k' f' n' l' = eqEn k' f' n' l' k f n l := by
 unfold eqEn
 rw [BEq.comm (a := k), BEq.comm (a := f), BEq.comm (a := n), eqTs_comm]
theorem eqTr_comm (a b : TrD) : eqTr a b = eqTr b a := by unfold eqTr; rw [BEq.comm (a := a.f0), eqEn_comm]
theorem eqTrs_comm : ∀ a b : List TrD, eqTrs a b = eqTrs b a
 | [], [] => rfl
 | [], _ :: _ => rfl
 | _ :: _, [] => rfl
 | x :: a, y :: b => by unfold eqTrs; rw [eqTr_comm, eqTrs_comm a b]
theorem eqPt_comm (a b : PartD) : eqPt a b = eqPt b a := by unfold eqPt; rw [BEq.comm (a := a.f0), BEq.comm (a := a.f1), BEq.comm (a := a.f2), eqS_comm]
theorem eqMs_comm (a b : MsgD) : eqMs a b = eqMs b a := by
 unfold eqMs
 rw [BEq.comm (a := a.f0), BEq.comm (a := a.f1), BEq.comm (a := a.f2), BEq.comm (a := a.f3), BEq.comm (a := a.f4), BEq.comm (a := a.f5), BEq.comm (a := a.f6), BEq.comm (a := a.f7), eqTrs_comm, eqEn_comm, eqPt_comm]
def mayLs (l : List TrD) : Bool := l.all mayTr && decide ((l.length : Int) ≤ 4096)
def maySw (m : MsgD) : Bool := if m.f0 = 3 then mayLs m.f8 else if m.f0 = 6 then mayE m.f9.f0 m.f9.f1 m.f9.f2 m.f9.f3 else if m.f0 = 5 then mayPt m.f10 else true
theorem bare_list {m : MsgD} (hk : isKind m.f0 = true) (he : eqMs (bareM m) m = true) (h3 : m.f0 ≠ 3) : m.f8 = [] := by
 have hb : (bareM m).f8 = [] := by unfold bareM; repeat' first | contradiction | rfl | split
 have h : eqTrs (bareM m).f8 m.f8 = true := by
  unfold eqMs at he
  simp only [Bool.and_eq_true] at he
  exact he.2.2.2.2.2.2.2.2.1
 rw [hb] at h
 cases hl : m.f8 with
 | nil => rfl
 | cons x l => rw [hl] at h; cases h
theorem mayMs_ref (m : MsgD) : mayMs m = (isKind m.f0 && (eqMs m (bareM m) && (inB 0 4 [m.f1] && (inB 0 4 [m.f2] && (inB 0 1099511627776 [m.f3] && (inB 0 1099511627776 [m.f4] && (inB 0 1099511627776 [m.f5] && (inB 0 1099511627776 [m.f6] && maySw m)))))))) := by
 unfold mayMs
 rw [eqMs_comm m]
 cases hk : isKind m.f0 with
 | false => simp
 | true =>
  cases he : eqMs (bareM m) m with
  | false => simp
  | true =>
   have e4 : inB 0 1099511627776 [m.f3, m.f4, m.f5, m.f6] = (inB 0 1099511627776 [m.f3] && (inB 0 1099511627776 [m.f4] && (inB 0 1099511627776 [m.f5] && inB 0 1099511627776 [m.f6]))) := by
    simp [inB]
   have es : (decide ((m.f8.length : Int) ≤ 4096) && (m.f8.all mayTr && ((!(m.f0 == 5) || mayPt m.f10) && (!(m.f0 == 6) || mayE m.f9.f0 m.f9.f1 m.f9.f2 m.f9.f3)))) = maySw m := by
    unfold maySw
    by_cases h3 : m.f0 = 3
    ·rw [if_pos h3, h3]
     unfold mayLs
     simp [Bool.and_comm]
    ·rw [if_neg h3, bare_list hk he h3]
     by_cases h6 : m.f0 = 6
     ·rw [if_pos h6, h6]; simp
     ·rw [if_neg h6]
      by_cases h5 : m.f0 = 5
      ·rw [if_pos h5, h5]; simp
      ·rw [if_neg h5, beq_eq_false_iff_ne.2 h5, beq_eq_false_iff_ne.2 h6]; simp
   rw [e4, es]
   simp [Bool.and_assoc]
theorem refWho_is (n : Int) (w : World) : Calls Tryz.prog 66 #[.int .i64 n] w fun e w' => e = .returned (.bool (inB 0 4 [n])) ∧ Below w.heap.size w w' :=
 (G.trivetref04_replica.calls n (inB 0 4 [n]) w (by
  unfold G.trivetref04_replica.f inB
  by_cases h : n ≥ 0
  ·rw [if_pos h]
   have e : decide (n < 5) = decide (n ≤ 4) := decide_eq_decide.2 (by omega)
   simp [e, h]
  ·rw [if_neg h]
   have : ¬ 0 ≤ n := h
   simp [this])).mono (fun e w' ⟨h1, k, h2⟩ => ⟨h1, by subst h2; exact pw_below_drewN (Below.refl _ _) k⟩)
theorem refCount_is (n : Int) (w : World) : Calls Tryz.prog 67 #[.int .i64 n] w fun e w' => e = .returned (.bool (inB 0 1099511627776 [n])) ∧ Below w.heap.size w w' :=
 (G.trivetref04_count.calls n (inB 0 1099511627776 [n]) w (by rw [count_f]; simp [inB])).mono (fun e w' ⟨h1, k, h2⟩ => ⟨h1, by subst h2; exact pw_below_drewN (Below.refl _ _) k⟩)
theorem refMayEn_is (k f n : Int) (A : Option Addr) (c : Nat) (l : List TxD) (w : World) (hr : Kd.C G.k26 w A l.length l) (hc : l.length ≤ c) :
  Calls Tryz.prog 29 #[.agg #[.int .i64 k, .int .i64 f, .int .i64 n, .slice A l.length c]] w fun e w' => e = .returned (.bool (mayE k f n l)) ∧ Below w.heap.size w w' := by
 obtain ⟨M, hM⟩ := bound_T l
 refine G.trivetref04_MayEntry.calls (M + l.length + 3) k f n A c l _ w hr hc (mayE_r _ k f n l (fun t ht => by have := hM t ht; omega) (by omega) hr.2.1 (fun t ht => ?_))
 obtain ⟨i, hi⟩ := List.getElem?_of_mem ht
 obtain ⟨ad, A2, c2, A3, c3, A4, c4, A5, c5, _, _, hX⟩ := tx_get hr hi
 exact hX.ls
theorem refPart_is {w : World} (a : PartD) {A : Option Addr} {c : Nat} (hc : a.f3.length ≤ c) (ha : Kd.C (Kd.int .u8) w A a.f3.length a.f3) :
  Calls Tryz.prog 70 #[.agg #[.int .i64 a.f0, .int .i64 a.f1, .int .i64 a.f2, .slice A a.f3.length c]] w fun e w' => e = .returned (.bool (mayPt a)) ∧ Below w.heap.size w w' :=
 G.trivetref04_MayPart.calls a.f0 a.f1 a.f2 A c a.f3 (mayPt a) w ha hc (by
  unfold G.trivetref04_MayPart.f mayPt
  rw [count_f, Option.bind_some]
  have e0 : inB 0 1099511627776 [a.f0] = (decide (0 ≤ a.f0) && decide (a.f0 ≤ 1099511627776)) := by simp [inB]
  rw [e0]
  cases (decide (0 ≤ a.f0) && decide (a.f0 ≤ 1099511627776)) with
  | false => rw [if_neg (by simp)]; rfl
  | true =>
   rw [if_pos rfl, Bool.true_and]
   by_cases h1 : a.f2 ≥ 1
   ·rw [if_pos h1]
    by_cases h2 : a.f2 ≤ 4096
    ·rw [if_pos h2]
     have e1 : inB 1 4096 [a.f2] = true := by simp [inB]; omega
     rw [e1, Bool.true_and]
     by_cases h3 : a.f1 ≥ 0
     ·rw [if_pos h3]
      by_cases h4 : a.f1 < a.f2
      ·rw [if_pos h4]
       have e2 : inB 0 (a.f2 - 1) [a.f1] = true := by simp [inB]; omega
       rw [e2, Bool.true_and]
      ·rw [if_neg h4]
       have e2 : inB 0 (a.f2 - 1) [a.f1] = false := by simp [inB]; omega
       rw [e2]; rfl
     ·rw [if_neg h3]
      have e2 : inB 0 (a.f2 - 1) [a.f1] = false := by simp [inB]; omega
      rw [e2]; rfl
    ·rw [if_neg h2]
     have e1 : inB 1 4096 [a.f2] = false := by simp [inB]; omega
     rw [e1]; rfl
   ·rw [if_neg h1]
    have e1 : inB 1 4096 [a.f2] = false := by simp [inB]; omega
    rw [e1]; rfl)
def LsI (l : List TrD) (w : World) (i : Value) (wr : World) : Prop := ∃ k : Nat, k ≤ l.length ∧ i = .int .i64 k ∧ (l.take k).all mayTr = true ∧ Below w.heap.size w wr
set_option maxHeartbeats 1000000 in
theorem refList_is (A : Option Addr) (c : Nat) (l : List TrD) (w : World) (hr : Kd.C G.k63 w A l.length l) :
  Calls Tryz.prog 69 #[.slice A l.length c] w fun e w' => e = .returned (.bool (mayLs l)) ∧ Below w.heap.size w w' := by
 have hlm : l.length ≤ 9223372036854775807 := hr.2.1
 have HR := Lib.hid hr
 clear hr
 go_enter Tryz.func69, Tryz.ntmps69
 go_wp2_with fail
 go_loopw [3] (fun i wr => LsI l w i wr) (fun i _ => l.length - (intOf i).toNat)
 case atStart => exact ⟨0, Nat.zero_le _, rfl, by simp, Below.refl _ _⟩
 case round =>
  obtain ⟨k, hk, rfl, hin, hb⟩ := hrel
  have HIN := Lib.hid hin; have HBr := Lib.hid hb
  clear hin hb
  by_cases hlt : k < l.length
  ·obtain ⟨x, hx⟩ : ∃ x, l[k]? = some x := ⟨_, List.getElem?_eq_getElem hlt⟩
   obtain ⟨ad, A4, c4, rfl, x0, x1, x2, x3, x4, hl, hX⟩ := tr_get (Kd.C_below HR.out HBr.out) hx
   have HXX := Lib.hid (And.intro hl hX)
   have HX := Lib.hid (show l.take (k + 1) = l.take k ++ [x] by rw [List.take_add_one, hx]; rfl)
   have HM := Lib.hid (List.mem_of_getElem? hx)
   have HXr := Lib.hid hx
   obtain ⟨q0, hq0⟩ : ∃ q, inB 0 1099511627776 [x.f0] = q := ⟨_, rfl⟩
   obtain ⟨q1, hq1⟩ : ∃ q, mayE x.f1.f0 x.f1.f1 x.f1.f2 x.f1.f3 = q := ⟨_, rfl⟩
   have HV := Lib.hid (show mayTr x = (q0 && q1) by rw [← hq0, ← hq1]; rfl)
   have H0 := Lib.hid hq0; have H1 := Lib.hid hq1
   clear hx hX hl hq0 hq1
   go_wp2_with fail
   have h4 := refCount_is x.f0 wr
   rw [H0.out] at h4
   refine h4.mono ?_
   rintro e w2 ⟨rfl, hb⟩
   have HB2 := Lib.hid (HBr.out.trans (hb.mono HBr.out.size)); have HXX2 := Lib.hid (Kd.C_below HXX.out.2 hb)
   obtain ⟨ad2, A42, c42, had, y0, y1, y2, y3, y4, hl2, hX2⟩ := tr_get (Kd.C_below HR.out HB2.out) HXr.out
   obtain rfl : ad2 = ad := by simpa using had.symm
   have HXX3 := Lib.hid (And.intro hl2 hX2)
   clear hb h4 x0 x1 x2 x3 x4 hl2 hX2 had
   cases q0 with
   | false =>
    have HB := Lib.hid (show mayLs l = false by
     unfold mayLs
     have : l.all mayTr = false := by rw [List.all_eq_false]; exact ⟨x, HM.out, by rw [HV.out]; simp⟩
     rw [this]; rfl)
    go_wp2_with fail
    go_ret
    exact ⟨by rw [HB.out]; rfl, HB2.out⟩
   | true =>
    go_wp2_with fail
    have h4 := refMayEn_is x.f1.f0 x.f1.f1 x.f1.f2 A42 c42 x.f1.f3 w2 HXX3.out.2 HXX3.out.1
    rw [H1.out] at h4
    refine h4.mono ?_
    rintro e w3 ⟨rfl, hb⟩
    have HB3 := Lib.hid (HB2.out.trans (hb.mono HB2.out.size))
    clear hb h4 y0 y1 y2 y3 y4
    cases q1 with
    | false =>
     have HB := Lib.hid (show mayLs l = false by
      unfold mayLs
      have : l.all mayTr = false := by rw [List.all_eq_false]; exact ⟨x, HM.out, by rw [HV.out]; simp⟩
      rw [this]; rfl)
     go_wp2_with fail
     go_ret
     exact ⟨by rw [HB.out]; rfl, HB3.out⟩
    | true =>
     have HB := Lib.hid (show (l.take (k + 1)).all mayTr = true by rw [HX.out, List.all_append, HIN.out]; simp [HV.out])
     go_wp2_with fail
     go_roundw
     case rel => exact ⟨k + 1, hlt, by go_num, HB.out, HB3.out⟩
     case measure => simp [intOf]; omega
  ·have HB := Lib.hid (show mayLs l = decide ((l.length : Int) ≤ 4096) by
    have := HIN.out
    rw [List.take_of_length_le (by omega)] at this
    unfold mayLs
    rw [this, Bool.true_and])
   obtain ⟨q, hq⟩ : ∃ q : Bool, decide ((l.length : Int) ≤ 4096) = q := ⟨_, rfl⟩
   rw [hq] at HB
   go_wp2_with fail
   go_ret
   exact ⟨by rw [HB.out]; rfl, HBr.out⟩
end Go.Proofs.YtgiefblcckikeaaGreat.M
end

section
/- The reference's MayMsg, CheckMsg (printed by genmsg04b.py). -/
attribute [local irreducible] Go.wpStill
namespace Go.Proofs.YtgiefblcckikeaaGreat.M
open Go.RowKit Go.Proofs.YtgiefblcckikeaaGreatW.PrintWords Go.Proofs.YtgiefblcckikeaaGreatW.PrintLast Go.Proofs.YtgiefblcckikeaaGreatW.PrintMore Go.Proofs.YtgiefblcckikeaaGreat.G
set_option maxHeartbeats 8000000 in
theorem refMayMs_is {w : World} (m : MsgD) {A8 A12 A16 : Option Addr} {c8 c12 c16 : Nat} (hm : MsgC w m A8 c8 A12 c12 A16 c16) :
  Calls Tryz.prog 30 #[.agg #[.int .i64 m.f0, .int .i64 m.f1, .int .i64 m.f2, .int .i64 m.f3, .int .i64 m.f4, .int .i64 m.f5, .int .i64 m.f6, .bool m.f7, .slice A8 m.f8.length c8, .int .i64 m.f9.f0, .int .i64 m.f9.f1, .int .i64 m.f9.f2, .slice A12 m.f9.f3.length c12, .int .i64 m.f10.f0, .int .i64 m.f10.f1, .int .i64 m.f10.f2, .slice A16 m.f10.f3.length c16]] w fun e w' => e = .returned (.bool (mayMs m)) ∧ Below w.heap.size w w' := by
 have hb := (Below.refl _ w).alloc (Nat.le_refl _) (.cells #[.int .i64 m.f0, .int .i64 m.f1, .int .i64 m.f2, .int .i64 m.f3, .int .i64 m.f4, .int .i64 m.f5, .int .i64 m.f6, .bool m.f7, .slice A8 m.f8.length c8, .int .i64 m.f9.f0, .int .i64 m.f9.f1, .int .i64 m.f9.f2, .slice A12 m.f9.f3.length c12, .int .i64 m.f10.f0, .int .i64 m.f10.f1, .int .i64 m.f10.f2, .slice A16 m.f10.f3.length c16] 34)
 have HB0 := Lib.hid hb; have HX0 := Lib.hid (show MsBox (w.alloc (.cells #[.int .i64 m.f0, .int .i64 m.f1, .int .i64 m.f2, .int .i64 m.f3, .int .i64 m.f4, .int .i64 m.f5, .int .i64 m.f6, .bool m.f7, .slice A8 m.f8.length c8, .int .i64 m.f9.f0, .int .i64 m.f9.f1, .int .i64 m.f9.f2, .slice A12 m.f9.f3.length c12, .int .i64 m.f10.f0, .int .i64 m.f10.f1, .int .i64 m.f10.f2, .slice A16 m.f10.f3.length c16] 34)) w.heap.size m A8 c8 A12 c12 A16 c16 from heap_alloc_new w _); have HM0 := Lib.hid (hm.below hb)
 obtain ⟨q, hq⟩ : ∃ q, mayMs m = q := ⟨_, rfl⟩
 have HQ := Lib.hid (hq.symm.trans (mayMs_ref m))
 rw [hq]
 clear hq hm hb
 go_enter Tryz.func30, Tryz.ntmps30
 go_upto_region 1 with fail
 obtain ⟨v0, hw⟩ : ∃ v, w.alloc (.cells #[.int .i64 m.f0, .int .i64 m.f1, .int .i64 m.f2, .int .i64 m.f3, .int .i64 m.f4, .int .i64 m.f5, .int .i64 m.f6, .bool m.f7, .slice A8 m.f8.length c8, .int .i64 m.f9.f0, .int .i64 m.f9.f1, .int .i64 m.f9.f2, .slice A12 m.f9.f3.length c12, .int .i64 m.f10.f0, .int .i64 m.f10.f1, .int .i64 m.f10.f2, .slice A16 m.f10.f3.length c16] 34) = v := ⟨_, rfl⟩
 obtain ⟨g, hg⟩ : ∃ g, w.heap.size = g := ⟨_, rfl⟩
 have HG := Lib.hid hg
 rw [hw] at HB0 HX0 HM0 ⊢
 rw [hg] at HX0 ⊢
 clear hw hg
 obtain ⟨b3, hb3⟩ : ∃ b, isKind m.f0 = b := ⟨_, rfl⟩
 obtain ⟨b4, hb4⟩ : ∃ b, eqMs m (bareM m) = b := ⟨_, rfl⟩
 obtain ⟨p1, hp1⟩ : ∃ b, inB 0 4 [m.f1] = b := ⟨_, rfl⟩
 obtain ⟨p2, hp2⟩ : ∃ b, inB 0 4 [m.f2] = b := ⟨_, rfl⟩
 obtain ⟨p3, hp3⟩ : ∃ b, inB 0 1099511627776 [m.f3] = b := ⟨_, rfl⟩
 obtain ⟨p4, hp4⟩ : ∃ b, inB 0 1099511627776 [m.f4] = b := ⟨_, rfl⟩
 obtain ⟨p5, hp5⟩ : ∃ b, inB 0 1099511627776 [m.f5] = b := ⟨_, rfl⟩
 obtain ⟨p6, hp6⟩ : ∃ b, inB 0 1099511627776 [m.f6] = b := ⟨_, rfl⟩
 obtain ⟨s, hs⟩ : ∃ b, maySw m = b := ⟨_, rfl⟩
 obtain ⟨k3, hk3⟩ : ∃ b : Bool, (m.f0 == 3) = b := ⟨_, rfl⟩
 obtain ⟨k6, hk6⟩ : ∃ b : Bool, (m.f0 == 6) = b := ⟨_, rfl⟩
 obtain ⟨k5, hk5⟩ : ∃ b : Bool, (m.f0 == 5) = b := ⟨_, rfl⟩
 have HV := Lib.hid (show q = (b3 && (b4 && (p1 && (p2 && (p3 && (p4 && (p5 && (p6 && s)))))))) by rw [HQ.out, hb3, hb4, hp1, hp2, hp3, hp4, hp5, hp6, hs])
 have HS := Lib.hid (show s = if k3 = true then mayLs m.f8 else if k6 = true then mayE m.f9.f0 m.f9.f1 m.f9.f2 m.f9.f3 else if k5 = true then mayPt m.f10 else true by
  rw [← hs, ← hk3, ← hk6, ← hk5]
  unfold maySw
  simp only [beq_iff_eq])
 have H3 := Lib.hid hb3; have H4 := Lib.hid hb4; have P1 := Lib.hid hp1; have P2 := Lib.hid hp2; have P3 := Lib.hid hp3; have P4 := Lib.hid hp4; have P5 := Lib.hid hp5; have P6 := Lib.hid hp6
 clear hb3 hb4 hp1 hp2 hp3 hp4 hp5 hp6 hs HQ
 refine wp_region_list ?_
 refine wpList_load_row rfl 34 (.tmp 1) rfl g rfl 34 #[.int .i64 m.f0, .int .i64 m.f1, .int .i64 m.f2, .int .i64 m.f3, .int .i64 m.f4, .int .i64 m.f5, .int .i64 m.f6, .bool m.f7, .slice A8 m.f8.length c8, .int .i64 m.f9.f0, .int .i64 m.f9.f1, .int .i64 m.f9.f2, .slice A12 m.f9.f3.length c12, .int .i64 m.f10.f0, .int .i64 m.f10.f1, .int .i64 m.f10.f2, .slice A16 m.f10.f3.length c16] (0, 0) _ HX0.out Tryz.underlying34 rfl (by kernel_rfl) ?_
 go_wp2_with fail
 have h4 := plain_is m HM0.out
 refine h4.mono ?_
 rintro e v1 ⟨y, B8, B12, B16, d8, d12, d16, rfl, hy, hyc, hb⟩
 rw [H3.out] at hy ⊢
 have HB1 := Lib.hid (HB0.out.trans (hb.mono HB0.out.size)); have HX1 := Lib.hid (HX0.out.below hb); have HM1 := Lib.hid (HM0.out.below hb); have HY := Lib.hid hy; have HYC := Lib.hid hyc
 clear h4 hb HB0 HX0 HM0 hy hyc
 go_upto_region 2 with fail
 have hbx := heap_alloc_new v1 (.cells #[.int .i64 y.f0, .int .i64 y.f1, .int .i64 y.f2, .int .i64 y.f3, .int .i64 y.f4, .int .i64 y.f5, .int .i64 y.f6, .bool y.f7, .slice B8 y.f8.length d8, .int .i64 y.f9.f0, .int .i64 y.f9.f1, .int .i64 y.f9.f2, .slice B12 y.f9.f3.length d12, .int .i64 y.f10.f0, .int .i64 y.f10.f1, .int .i64 y.f10.f2, .slice B16 y.f10.f3.length d16] 34)
 have hay := (Below.refl _ v1).alloc (Nat.le_refl _) (.cells #[.int .i64 y.f0, .int .i64 y.f1, .int .i64 y.f2, .int .i64 y.f3, .int .i64 y.f4, .int .i64 y.f5, .int .i64 y.f6, .bool y.f7, .slice B8 y.f8.length d8, .int .i64 y.f9.f0, .int .i64 y.f9.f1, .int .i64 y.f9.f2, .slice B12 y.f9.f3.length d12, .int .i64 y.f10.f0, .int .i64 y.f10.f1, .int .i64 y.f10.f2, .slice B16 y.f10.f3.length d16] 34)
 obtain ⟨v2, hw⟩ : ∃ v, v1.alloc (.cells #[.int .i64 y.f0, .int .i64 y.f1, .int .i64 y.f2, .int .i64 y.f3, .int .i64 y.f4, .int .i64 y.f5, .int .i64 y.f6, .bool y.f7, .slice B8 y.f8.length d8, .int .i64 y.f9.f0, .int .i64 y.f9.f1, .int .i64 y.f9.f2, .slice B12 y.f9.f3.length d12, .int .i64 y.f10.f0, .int .i64 y.f10.f1, .int .i64 y.f10.f2, .slice B16 y.f10.f3.length d16] 34) = v := ⟨_, rfl⟩
 rw [hw] at hbx hay ⊢
 clear hw
 have HB2 := Lib.hid (HB1.out.trans (hay.mono HB1.out.size)); have HX2 := Lib.hid (HX1.out.below hay); have HM2 := Lib.hid (HM1.out.below hay); have HYD := Lib.hid (HYC.out.below hay)
 obtain ⟨gy, hgy⟩ : ∃ gy, v1.heap.size = gy := ⟨_, rfl⟩
 rw [hgy] at hbx ⊢
 have HYX := Lib.hid (show MsBox v2 gy y B8 d8 B12 d12 B16 d16 from hbx)
 clear hbx hay hgy HB1 HX1 HM1 HYC
 obtain ⟨a0, a1, a2, a3, a4, a5, a6, a7, a8, a9, a10, a11, a12, a13, a14, a15, a16⟩ := HX2.out.cell
 cases b3 with
 | false =>
  have HW := Lib.hid (show q = false by rw [HV.out]; simp)
  go_wp2_with fail
  go_ret
  exact ⟨by rw [HW.out]; rfl, HB2.out⟩
 | true =>
  have HYE := Lib.hid (HY.out rfl)
  refine wp_region_list ?_
  refine wpList_cut 3 ?_
  simp only [List.take_succ_cons, List.take_zero, List.drop_succ_cons, List.drop_zero]
  go_wp2_with fail
  refine Halt.mk ?_
  refine gate_guard (by rfl) ?_
  dsimp only
  refine wpList_load_row rfl 34 (.tmp 1) rfl g rfl 34 #[.int .i64 m.f0, .int .i64 m.f1, .int .i64 m.f2, .int .i64 m.f3, .int .i64 m.f4, .int .i64 m.f5, .int .i64 m.f6, .bool m.f7, .slice A8 m.f8.length c8, .int .i64 m.f9.f0, .int .i64 m.f9.f1, .int .i64 m.f9.f2, .slice A12 m.f9.f3.length c12, .int .i64 m.f10.f0, .int .i64 m.f10.f1, .int .i64 m.f10.f2, .slice A16 m.f10.f3.length c16] (0, 0) _ HX2.out Tryz.underlying34 rfl (by kernel_rfl) ?_
  refine gate_guard (by rfl) ?_
  dsimp only
  refine wpList_load_row rfl 34 (.tmp 3) rfl gy rfl 34 #[.int .i64 y.f0, .int .i64 y.f1, .int .i64 y.f2, .int .i64 y.f3, .int .i64 y.f4, .int .i64 y.f5, .int .i64 y.f6, .bool y.f7, .slice B8 y.f8.length d8, .int .i64 y.f9.f0, .int .i64 y.f9.f1, .int .i64 y.f9.f2, .slice B12 y.f9.f3.length d12, .int .i64 y.f10.f0, .int .i64 y.f10.f1, .int .i64 y.f10.f2, .slice B16 y.f10.f3.length d16] (0, 0) _ HYX.out Tryz.underlying34 rfl (by kernel_rfl) ?_
  go_wp2_with fail
  have H4' := Lib.hid (show eqMs m y = b4 by rw [HYE.out]; exact H4.out)
  clear HYE HY
  have h4 := refSameMs_is m y HM2.out HYD.out
  rw [H4'.out] at h4
  refine h4.mono ?_
  rintro e v3 ⟨rfl, hb⟩
  have HB3 := Lib.hid (HB2.out.trans (hb.mono HB2.out.size)); have HX3 := Lib.hid (HX2.out.below hb); have HM3 := Lib.hid (HM2.out.below hb)
  clear h4 hb HB2 HX2 HM2 a0 a1 a2 a3 a4 a5 a6 a7 a8 a9 a10 a11 a12 a13 a14 a15 a16
  obtain ⟨a0, a1, a2, a3, a4, a5, a6, a7, a8, a9, a10, a11, a12, a13, a14, a15, a16⟩ := HX3.out.cell
  cases b4 with
  | false =>
   have HW := Lib.hid (show q = false by rw [HV.out]; simp)
   go_wp2_with fail
   go_ret
   exact ⟨by rw [HW.out]; rfl, HB3.out⟩
  | true =>
   go_wp2_with fail
   have h4 := refWho_is m.f1 v3
   rw [P1.out] at h4
   refine h4.mono ?_
   rintro e v4 ⟨rfl, hb⟩
   have HB4 := Lib.hid (HB3.out.trans (hb.mono HB3.out.size)); have HX4 := Lib.hid (HX3.out.below hb); have HM4 := Lib.hid (HM3.out.below hb)
   clear h4 hb HB3 HX3 HM3 a0 a1 a2 a3 a4 a5 a6 a7 a8 a9 a10 a11 a12 a13 a14 a15 a16
   obtain ⟨a0, a1, a2, a3, a4, a5, a6, a7, a8, a9, a10, a11, a12, a13, a14, a15, a16⟩ := HX4.out.cell
   cases p1 with
   | false =>
    have HW := Lib.hid (show q = false by rw [HV.out]; simp)
    go_wp2_with fail
    go_ret
    exact ⟨by rw [HW.out]; rfl, HB4.out⟩
   | true =>
    go_wp2_with fail
    have h4 := refWho_is m.f2 v4
    rw [P2.out] at h4
    refine h4.mono ?_
    rintro e v5 ⟨rfl, hb⟩
    have HB5 := Lib.hid (HB4.out.trans (hb.mono HB4.out.size)); have HX5 := Lib.hid (HX4.out.below hb); have HM5 := Lib.hid (HM4.out.below hb)
    clear h4 hb HB4 HX4 HM4 a0 a1 a2 a3 a4 a5 a6 a7 a8 a9 a10 a11 a12 a13 a14 a15 a16
    obtain ⟨a0, a1, a2, a3, a4, a5, a6, a7, a8, a9, a10, a11, a12, a13, a14, a15, a16⟩ := HX5.out.cell
    cases p2 with
    | false =>
     have HW := Lib.hid (show q = false by rw [HV.out]; simp)
     go_wp2_with fail
     go_ret
     exact ⟨by rw [HW.out]; rfl, HB5.out⟩
    | true =>
     go_wp2_with fail
     have h4 := refCount_is m.f3 v5
     rw [P3.out] at h4
     refine h4.mono ?_
     rintro e v6 ⟨rfl, hb⟩
     have HB6 := Lib.hid (HB5.out.trans (hb.mono HB5.out.size)); have HX6 := Lib.hid (HX5.out.below hb); have HM6 := Lib.hid (HM5.out.below hb)
     clear h4 hb HB5 HX5 HM5 a0 a1 a2 a3 a4 a5 a6 a7 a8 a9 a10 a11 a12 a13 a14 a15 a16
     obtain ⟨a0, a1, a2, a3, a4, a5, a6, a7, a8, a9, a10, a11, a12, a13, a14, a15, a16⟩ := HX6.out.cell
     cases p3 with
     | false =>
      have HW := Lib.hid (show q = false by rw [HV.out]; simp)
      go_wp2_with fail
      go_ret
      exact ⟨by rw [HW.out]; rfl, HB6.out⟩
     | true =>
      go_wp2_with fail
      have h4 := refCount_is m.f4 v6
      rw [P4.out] at h4
      refine h4.mono ?_
      rintro e v7 ⟨rfl, hb⟩
      have HB7 := Lib.hid (HB6.out.trans (hb.mono HB6.out.size)); have HX7 := Lib.hid (HX6.out.below hb); have HM7 := Lib.hid (HM6.out.below hb)
      clear h4 hb HB6 HX6 HM6 a0 a1 a2 a3 a4 a5 a6 a7 a8 a9 a10 a11 a12 a13 a14 a15 a16
      obtain ⟨a0, a1, a2, a3, a4, a5, a6, a7, a8, a9, a10, a11, a12, a13, a14, a15, a16⟩ := HX7.out.cell
      cases p4 with
      | false =>
       have HW := Lib.hid (show q = false by rw [HV.out]; simp)
       go_wp2_with fail
       go_ret
       exact ⟨by rw [HW.out]; rfl, HB7.out⟩
      | true =>
       go_wp2_with fail
       have h4 := refCount_is m.f5 v7
       rw [P5.out] at h4
       refine h4.mono ?_
       rintro e v8 ⟨rfl, hb⟩
       have HB8 := Lib.hid (HB7.out.trans (hb.mono HB7.out.size)); have HX8 := Lib.hid (HX7.out.below hb); have HM8 := Lib.hid (HM7.out.below hb)
       clear h4 hb HB7 HX7 HM7 a0 a1 a2 a3 a4 a5 a6 a7 a8 a9 a10 a11 a12 a13 a14 a15 a16
       obtain ⟨a0, a1, a2, a3, a4, a5, a6, a7, a8, a9, a10, a11, a12, a13, a14, a15, a16⟩ := HX8.out.cell
       cases p5 with
       | false =>
        have HW := Lib.hid (show q = false by rw [HV.out]; simp)
        go_wp2_with fail
        go_ret
        exact ⟨by rw [HW.out]; rfl, HB8.out⟩
       | true =>
        go_wp2_with fail
        have h4 := refCount_is m.f6 v8
        rw [P6.out] at h4
        refine h4.mono ?_
        rintro e v9 ⟨rfl, hb⟩
        have HB9 := Lib.hid (HB8.out.trans (hb.mono HB8.out.size)); have HX9 := Lib.hid (HX8.out.below hb); have HM9 := Lib.hid (HM8.out.below hb)
        clear h4 hb HB8 HX8 HM8 a0 a1 a2 a3 a4 a5 a6 a7 a8 a9 a10 a11 a12 a13 a14 a15 a16
        obtain ⟨a0, a1, a2, a3, a4, a5, a6, a7, a8, a9, a10, a11, a12, a13, a14, a15, a16⟩ := HX9.out.cell
        cases p6 with
        | false =>
         have HW := Lib.hid (show q = false by rw [HV.out]; simp)
         go_wp2_with fail
         go_ret
         exact ⟨by rw [HW.out]; rfl, HB9.out⟩
        | true =>
         cases k3 with
         | true =>
          obtain ⟨r, hr⟩ : ∃ r, mayLs m.f8 = r := ⟨_, rfl⟩
          have HW := Lib.hid (show q = r by rw [HV.out, HS.out, ← hr]; simp)
          have HR := Lib.hid hr
          clear hr
          go_wp2_with fail
          have h4 := refList_is A8 c8 m.f8 v9 HM9.out.g8
          rw [HR.out] at h4
          refine h4.mono ?_
          rintro e v10 ⟨rfl, hb⟩
          have HB10 := Lib.hid (HB9.out.trans (hb.mono HB9.out.size)); have HX10 := Lib.hid (HX9.out.below hb); have HM10 := Lib.hid (HM9.out.below hb)
          clear h4 hb HB9 HX9 HM9 a0 a1 a2 a3 a4 a5 a6 a7 a8 a9 a10 a11 a12 a13 a14 a15 a16
          obtain ⟨a0, a1, a2, a3, a4, a5, a6, a7, a8, a9, a10, a11, a12, a13, a14, a15, a16⟩ := HX10.out.cell
          go_wp2_with fail
          go_ret
          exact ⟨by rw [HW.out]; rfl, HB10.out⟩
         | false =>
          cases k6 with
          | true =>
           obtain ⟨r, hr⟩ : ∃ r, mayE m.f9.f0 m.f9.f1 m.f9.f2 m.f9.f3 = r := ⟨_, rfl⟩
           have HW := Lib.hid (show q = r by rw [HV.out, HS.out, ← hr]; simp)
           have HR := Lib.hid hr
           clear hr
           go_wp2_with fail
           have h4 := refMayEn_is m.f9.f0 m.f9.f1 m.f9.f2 A12 c12 m.f9.f3 v9 HM9.out.g12 HM9.out.l12
           rw [HR.out] at h4
           refine h4.mono ?_
           rintro e v10 ⟨rfl, hb⟩
           have HB10 := Lib.hid (HB9.out.trans (hb.mono HB9.out.size)); have HX10 := Lib.hid (HX9.out.below hb); have HM10 := Lib.hid (HM9.out.below hb)
           clear h4 hb HB9 HX9 HM9 a0 a1 a2 a3 a4 a5 a6 a7 a8 a9 a10 a11 a12 a13 a14 a15 a16
           obtain ⟨a0, a1, a2, a3, a4, a5, a6, a7, a8, a9, a10, a11, a12, a13, a14, a15, a16⟩ := HX10.out.cell
           go_wp2_with fail
           go_ret
           exact ⟨by rw [HW.out]; rfl, HB10.out⟩
          | false =>
           cases k5 with
           | true =>
            obtain ⟨r, hr⟩ : ∃ r, mayPt m.f10 = r := ⟨_, rfl⟩
            have HW := Lib.hid (show q = r by rw [HV.out, HS.out, ← hr]; simp)
            have HR := Lib.hid hr
            clear hr
            go_wp2_with fail
            have h4 := refPart_is m.f10 HM9.out.l16 HM9.out.g16
            rw [HR.out] at h4
            refine h4.mono ?_
            rintro e v10 ⟨rfl, hb⟩
            have HB10 := Lib.hid (HB9.out.trans (hb.mono HB9.out.size)); have HX10 := Lib.hid (HX9.out.below hb); have HM10 := Lib.hid (HM9.out.below hb)
            clear h4 hb HB9 HX9 HM9 a0 a1 a2 a3 a4 a5 a6 a7 a8 a9 a10 a11 a12 a13 a14 a15 a16
            obtain ⟨a0, a1, a2, a3, a4, a5, a6, a7, a8, a9, a10, a11, a12, a13, a14, a15, a16⟩ := HX10.out.cell
            go_wp2_with fail
            go_ret
            exact ⟨by rw [HW.out]; rfl, HB10.out⟩
           | false =>
            have HW := Lib.hid (show q = true by rw [HV.out, HS.out]; simp)
            go_wp2_with fail
            go_ret
            exact ⟨by rw [HW.out]; rfl, HB9.out⟩
end Go.Proofs.YtgiefblcckikeaaGreat.M
end

section
/- The reference's Marshal. -/
attribute [local irreducible] Go.wpStill
namespace Go.Proofs.YtgiefblcckikeaaGreat.M
open Go.RowKit Go.Proofs.YtgiefblcckikeaaGreatW.PrintWords Go.Proofs.YtgiefblcckikeaaGreatW.PrintLast Go.Proofs.YtgiefblcckikeaaGreatW.PrintMore Go.Proofs.YtgiefblcckikeaaGreat.G
def marF (S : List Int → List Int) (m : MsgD) : List Int × Int := if mayMs m = true then (if 1048576 < (msgB m).length then ([], 3) else (S (msgB m), 0)) else ([], 40)
end Go.Proofs.YtgiefblcckikeaaGreat.M
end
