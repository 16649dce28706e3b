/- RecordReadsSaid: contracts of the functions that the law goes through, put together in build order (part 7 of 7). -/
import Derived.Test.YtgiefblcckikeaaGreatPart5
set_option linter.unusedVariables false
set_option linter.unusedSimpArgs false
set_option maxRecDepth 100000
section
/- The reference's MayMsg, CheckMsg (printed by genmsg04b.py). -/
attribute [local irreducible] Go.wpStill
namespace Go.Proofs.YtgiefblcckikeaaGreat.M
open Go.RowKit Go.Proofs.YtgiefblcckikeaaGreatW.PrintWords Go.Proofs.YtgiefblcckikeaaGreatW.PrintLast Go.Proofs.YtgiefblcckikeaaGreatW.PrintMore Go.Proofs.YtgiefblcckikeaaGreat.G
set_option maxHeartbeats 8000000 in
theorem refMayMs_is {w : World} (m : MsgD) {A8 A12 A16 : Option Addr} {c8 c12 c16 : Nat} (hm : MsgC w m A8 c8 A12 c12 A16 c16) :
  Calls Tryz.prog 30 #[.agg #[.int .i64 m.f0, .int .i64 m.f1, .int .i64 m.f2, .int .i64 m.f3, .int .i64 m.f4, .int .i64 m.f5, .int .i64 m.f6, .bool m.f7, .slice A8 m.f8.length c8, .int .i64 m.f9.f0, .int .i64 m.f9.f1, .int .i64 m.f9.f2, .slice A12 m.f9.f3.length c12, .int .i64 m.f10.f0, .int .i64 m.f10.f1, .int .i64 m.f10.f2, .slice A16 m.f10.f3.length c16]] w fun e w' => e = .returned (.bool (mayMs m)) ∧ Below w.heap.size w w' := by
 have hb := (Below.refl _ w).alloc (Nat.le_refl _) (.cells #[.int .i64 m.f0, .int .i64 m.f1, .int .i64 m.f2, .int .i64 m.f3, .int .i64 m.f4, .int .i64 m.f5, .int .i64 m.f6, .bool m.f7, .slice A8 m.f8.length c8, .int .i64 m.f9.f0, .int .i64 m.f9.f1, .int .i64 m.f9.f2, .slice A12 m.f9.f3.length c12, .int .i64 m.f10.f0, .int .i64 m.f10.f1, .int .i64 m.f10.f2, .slice A16 m.f10.f3.length c16] 34)
 have HB0 := Lib.hid hb; have HX0 := Lib.hid (show MsBox (w.alloc (.cells #[.int .i64 m.f0, .int .i64 m.f1, .int .i64 m.f2, .int .i64 m.f3, .int .i64 m.f4, .int .i64 m.f5, .int .i64 m.f6, .bool m.f7, .slice A8 m.f8.length c8, .int .i64 m.f9.f0, .int .i64 m.f9.f1, .int .i64 m.f9.f2, .slice A12 m.f9.f3.length c12, .int .i64 m.f10.f0, .int .i64 m.f10.f1, .int .i64 m.f10.f2, .slice A16 m.f10.f3.length c16] 34)) w.heap.size m A8 c8 A12 c12 A16 c16 from heap_alloc_new w _); have HM0 := Lib.hid (hm.below hb)
 obtain ⟨q, hq⟩ : ∃ q, mayMs m = q := ⟨_, rfl⟩
 have HQ := Lib.hid (hq.symm.trans (mayMs_ref m))
 rw [hq]
 clear hq hm hb
 go_enter Tryz.func30, Tryz.ntmps30
 go_upto_region 1 with fail
 obtain ⟨v0, hw⟩ : ∃ v, w.alloc (.cells #[.int .i64 m.f0, .int .i64 m.f1, .int .i64 m.f2, .int .i64 m.f3, .int .i64 m.f4, .int .i64 m.f5, .int .i64 m.f6, .bool m.f7, .slice A8 m.f8.length c8, .int .i64 m.f9.f0, .int .i64 m.f9.f1, .int .i64 m.f9.f2, .slice A12 m.f9.f3.length c12, .int .i64 m.f10.f0, .int .i64 m.f10.f1, .int .i64 m.f10.f2, .slice A16 m.f10.f3.length c16] 34) = v := ⟨_, rfl⟩
 obtain ⟨g, hg⟩ : ∃ g, w.heap.size = g := ⟨_, rfl⟩
 have HG := Lib.hid hg
 rw [hw] at HB0 HX0 HM0 ⊢
 rw [hg] at HX0 ⊢
 clear hw hg
 obtain ⟨b3, hb3⟩ : ∃ b, isKind m.f0 = b := ⟨_, rfl⟩
 obtain ⟨b4, hb4⟩ : ∃ b, eqMs m (bareM m) = b := ⟨_, rfl⟩
 obtain ⟨p1, hp1⟩ : ∃ b, inB 0 4 [m.f1] = b := ⟨_, rfl⟩
 obtain ⟨p2, hp2⟩ : ∃ b, inB 0 4 [m.f2] = b := ⟨_, rfl⟩
 obtain ⟨p3, hp3⟩ : ∃ b, inB 0 1099511627776 [m.f3] = b := ⟨_, rfl⟩
 obtain ⟨p4, hp4⟩ : ∃ b, inB 0 1099511627776 [m.f4] = b := ⟨_, rfl⟩
 obtain ⟨p5, hp5⟩ : ∃ b, inB 0 1099511627776 [m.f5] = b := ⟨_, rfl⟩
 obtain ⟨p6, hp6⟩ : ∃ b, inB 0 1099511627776 [m.f6] = b := ⟨_, rfl⟩
 obtain ⟨s, hs⟩ : ∃ b, maySw m = b := ⟨_, rfl⟩
 obtain ⟨k3, hk3⟩ : ∃ b : Bool, (m.f0 == 3) = b := ⟨_, rfl⟩
 obtain ⟨k6, hk6⟩ : ∃ b : Bool, (m.f0 == 6) = b := ⟨_, rfl⟩
 obtain ⟨k5, hk5⟩ : ∃ b : Bool, (m.f0 == 5) = b := ⟨_, rfl⟩
 have HV := Lib.hid (show q = (b3 && (b4 && (p1 && (p2 && (p3 && (p4 && (p5 && (p6 && s)))))))) by rw [HQ.out, hb3, hb4, hp1, hp2, hp3, hp4, hp5, hp6, hs])
 have HS := Lib.hid (show s = if k3 = true then mayLs m.f8 else if k6 = true then mayE m.f9.f0 m.f9.f1 m.f9.f2 m.f9.f3 else if k5 = true then mayPt m.f10 else true by
  rw [← hs, ← hk3, ← hk6, ← hk5]
  unfold maySw
  simp only [beq_iff_eq])
 have H3 := Lib.hid hb3; have H4 := Lib.hid hb4; have P1 := Lib.hid hp1; have P2 := Lib.hid hp2; have P3 := Lib.hid hp3; have P4 := Lib.hid hp4; have P5 := Lib.hid hp5; have P6 := Lib.hid hp6
 clear hb3 hb4 hp1 hp2 hp3 hp4 hp5 hp6 hs HQ
 refine wp_region_list ?_
 refine wpList_load_row rfl 34 (.tmp 1) rfl g rfl 34 #[.int .i64 m.f0, .int .i64 m.f1, .int .i64 m.f2, .int .i64 m.f3, .int .i64 m.f4, .int .i64 m.f5, .int .i64 m.f6, .bool m.f7, .slice A8 m.f8.length c8, .int .i64 m.f9.f0, .int .i64 m.f9.f1, .int .i64 m.f9.f2, .slice A12 m.f9.f3.length c12, .int .i64 m.f10.f0, .int .i64 m.f10.f1, .int .i64 m.f10.f2, .slice A16 m.f10.f3.length c16] (0, 0) _ HX0.out Tryz.underlying34 rfl (by kernel_rfl) ?_
 go_wp2_with fail
 have h4 := plain_is m HM0.out
 refine h4.mono ?_
 rintro e v1 ⟨y, B8, B12, B16, d8, d12, d16, rfl, hy, hyc, hb⟩
 rw [H3.out] at hy ⊢
 have HB1 := Lib.hid (HB0.out.trans (hb.mono HB0.out.size)); have HX1 := Lib.hid (HX0.out.below hb); have HM1 := Lib.hid (HM0.out.below hb); have HY := Lib.hid hy; have HYC := Lib.hid hyc
 clear h4 hb HB0 HX0 HM0 hy hyc
 go_upto_region 2 with fail
 have hbx := heap_alloc_new v1 (.cells #[.int .i64 y.f0, .int .i64 y.f1, .int .i64 y.f2, .int .i64 y.f3, .int .i64 y.f4, .int .i64 y.f5, .int .i64 y.f6, .bool y.f7, .slice B8 y.f8.length d8, .int .i64 y.f9.f0, .int .i64 y.f9.f1, .int .i64 y.f9.f2, .slice B12 y.f9.f3.length d12, .int .i64 y.f10.f0, .int .i64 y.f10.f1, .int .i64 y.f10.f2, .slice B16 y.f10.f3.length d16] 34)
 have hay := (Below.refl _ v1).alloc (Nat.le_refl _) (.cells #[.int .i64 y.f0, .int .i64 y.f1, .int .i64 y.f2, .int .i64 y.f3, .int .i64 y.f4, .int .i64 y.f5, .int .i64 y.f6, .bool y.f7, .slice B8 y.f8.length d8, .int .i64 y.f9.f0, .int .i64 y.f9.f1, .int .i64 y.f9.f2, .slice B12 y.f9.f3.length d12, .int .i64 y.f10.f0, .int .i64 y.f10.f1, .int .i64 y.f10.f2, .slice B16 y.f10.f3.length d16] 34)
 obtain ⟨v2, hw⟩ : ∃ v, v1.alloc (.cells #[.int .i64 y.f0, .int .i64 y.f1, .int .i64 y.f2, .int .i64 y.f3, .int .i64 y.f4, .int .i64 y.f5, .int .i64 y.f6, .bool y.f7, .slice B8 y.f8.length d8, .int .i64 y.f9.f0, .int .i64 y.f9.f1, .int .i64 y.f9.f2, .slice B12 y.f9.f3.length d12, .int .i64 y.f10.f0, .int .i64 y.f10.f1, .int .i64 y.f10.f2, .slice B16 y.f10.f3.length d16] 34) = v := ⟨_, rfl⟩
 rw [hw] at hbx hay ⊢
 clear hw
 have HB2 := Lib.hid (HB1.out.trans (hay.mono HB1.out.size)); have HX2 := Lib.hid (HX1.out.below hay); have HM2 := Lib.hid (HM1.out.below hay); have HYD := Lib.hid (HYC.out.below hay)
 obtain ⟨gy, hgy⟩ : ∃ gy, v1.heap.size = gy := ⟨_, rfl⟩
 rw [hgy] at hbx ⊢
 have HYX := Lib.hid (show MsBox v2 gy y B8 d8 B12 d12 B16 d16 from hbx)
 clear hbx hay hgy HB1 HX1 HM1 HYC
 obtain ⟨a0, a1, a2, a3, a4, a5, a6, a7, a8, a9, a10, a11, a12, a13, a14, a15, a16⟩ := HX2.out.cell
 cases b3 with
 | false =>
  have HW := Lib.hid (show q = false by rw [HV.out]; simp)
  go_wp2_with fail
  go_ret
  exact ⟨by rw [HW.out]; rfl, HB2.out⟩
 | true =>
  have HYE := Lib.hid (HY.out rfl)
  refine wp_region_list ?_
  refine wpList_cut 3 ?_
  simp only [List.take_succ_cons, List.take_zero, List.drop_succ_cons, List.drop_zero]
  go_wp2_with fail
  refine Halt.mk ?_
  refine gate_guard (by rfl) ?_
  dsimp only
  refine wpList_load_row rfl 34 (.tmp 1) rfl g rfl 34 #[.int .i64 m.f0, .int .i64 m.f1, .int .i64 m.f2, .int .i64 m.f3, .int .i64 m.f4, .int .i64 m.f5, .int .i64 m.f6, .bool m.f7, .slice A8 m.f8.length c8, .int .i64 m.f9.f0, .int .i64 m.f9.f1, .int .i64 m.f9.f2, .slice A12 m.f9.f3.length c12, .int .i64 m.f10.f0, .int .i64 m.f10.f1, .int .i64 m.f10.f2, .slice A16 m.f10.f3.length c16] (0, 0) _ HX2.out Tryz.underlying34 rfl (by kernel_rfl) ?_
  refine gate_guard (by rfl) ?_
  dsimp only
  refine wpList_load_row rfl 34 (.tmp 3) rfl gy rfl 34 #[.int .i64 y.f0, .int .i64 y.f1, .int .i64 y.f2, .int .i64 y.f3, .int .i64 y.f4, .int .i64 y.f5, .int .i64 y.f6, .bool y.f7, .slice B8 y.f8.length d8, .int .i64 y.f9.f0, .int .i64 y.f9.f1, .int .i64 y.f9.f2, .slice B12 y.f9.f3.length d12, .int .i64 y.f10.f0, .int .i64 y.f10.f1, .int .i64 y.f10.f2, .slice B16 y.f10.f3.length d16] (0, 0) _ HYX.out Tryz.underlying34 rfl (by kernel_rfl) ?_
  go_wp2_with fail
  have H4' := Lib.hid (show eqMs m y = b4 by rw [HYE.out]; exact H4.out)
  clear HYE HY
  have h4 := refSameMs_is m y HM2.out HYD.out
  rw [H4'.out] at h4
  refine h4.mono ?_
  rintro e v3 ⟨rfl, hb⟩
  have HB3 := Lib.hid (HB2.out.trans (hb.mono HB2.out.size)); have HX3 := Lib.hid (HX2.out.below hb); have HM3 := Lib.hid (HM2.out.below hb)
  clear h4 hb HB2 HX2 HM2 a0 a1 a2 a3 a4 a5 a6 a7 a8 a9 a10 a11 a12 a13 a14 a15 a16
  obtain ⟨a0, a1, a2, a3, a4, a5, a6, a7, a8, a9, a10, a11, a12, a13, a14, a15, a16⟩ := HX3.out.cell
  cases b4 with
  | false =>
   have HW := Lib.hid (show q = false by rw [HV.out]; simp)
   go_wp2_with fail
   go_ret
   exact ⟨by rw [HW.out]; rfl, HB3.out⟩
  | true =>
   go_wp2_with fail
   have h4 := refWho_is m.f1 v3
   rw [P1.out] at h4
   refine h4.mono ?_
   rintro e v4 ⟨rfl, hb⟩
   have HB4 := Lib.hid (HB3.out.trans (hb.mono HB3.out.size)); have HX4 := Lib.hid (HX3.out.below hb); have HM4 := Lib.hid (HM3.out.below hb)
   clear h4 hb HB3 HX3 HM3 a0 a1 a2 a3 a4 a5 a6 a7 a8 a9 a10 a11 a12 a13 a14 a15 a16
   obtain ⟨a0, a1, a2, a3, a4, a5, a6, a7, a8, a9, a10, a11, a12, a13, a14, a15, a16⟩ := HX4.out.cell
   cases p1 with
   | false =>
    have HW := Lib.hid (show q = false by rw [HV.out]; simp)
    go_wp2_with fail
    go_ret
    exact ⟨by rw [HW.out]; rfl, HB4.out⟩
   | true =>
    go_wp2_with fail
    have h4 := refWho_is m.f2 v4
    rw [P2.out] at h4
    refine h4.mono ?_
    rintro e v5 ⟨rfl, hb⟩
    have HB5 := Lib.hid (HB4.out.trans (hb.mono HB4.out.size)); have HX5 := Lib.hid (HX4.out.below hb); have HM5 := Lib.hid (HM4.out.below hb)
    clear h4 hb HB4 HX4 HM4 a0 a1 a2 a3 a4 a5 a6 a7 a8 a9 a10 a11 a12 a13 a14 a15 a16
    obtain ⟨a0, a1, a2, a3, a4, a5, a6, a7, a8, a9, a10, a11, a12, a13, a14, a15, a16⟩ := HX5.out.cell
    cases p2 with
    | false =>
     have HW := Lib.hid (show q = false by rw [HV.out]; simp)
     go_wp2_with fail
     go_ret
     exact ⟨by rw [HW.out]; rfl, HB5.out⟩
    | true =>
     go_wp2_with fail
     have h4 := refCount_is m.f3 v5
     rw [P3.out] at h4
     refine h4.mono ?_
     rintro e v6 ⟨rfl, hb⟩
     have HB6 := Lib.hid (HB5.out.trans (hb.mono HB5.out.size)); have HX6 := Lib.hid (HX5.out.below hb); have HM6 := Lib.hid (HM5.out.below hb)
     clear h4 hb HB5 HX5 HM5 a0 a1 a2 a3 a4 a5 a6 a7 a8 a9 a10 a11 a12 a13 a14 a15 a16
     obtain ⟨a0, a1, a2, a3, a4, a5, a6, a7, a8, a9, a10, a11, a12, a13, a14, a15, a16⟩ := HX6.out.cell
     cases p3 with
     | false =>
      have HW := Lib.hid (show q = false by rw [HV.out]; simp)
      go_wp2_with fail
      go_ret
      exact ⟨by rw [HW.out]; rfl, HB6.out⟩
     | true =>
      go_wp2_with fail
      have h4 := refCount_is m.f4 v6
      rw [P4.out] at h4
      refine h4.mono ?_
      rintro e v7 ⟨rfl, hb⟩
      have HB7 := Lib.hid (HB6.out.trans (hb.mono HB6.out.size)); have HX7 := Lib.hid (HX6.out.below hb); have HM7 := Lib.hid (HM6.out.below hb)
      clear h4 hb HB6 HX6 HM6 a0 a1 a2 a3 a4 a5 a6 a7 a8 a9 a10 a11 a12 a13 a14 a15 a16
      obtain ⟨a0, a1, a2, a3, a4, a5, a6, a7, a8, a9, a10, a11, a12, a13, a14, a15, a16⟩ := HX7.out.cell
      cases p4 with
      | false =>
       have HW := Lib.hid (show q = false by rw [HV.out]; simp)
       go_wp2_with fail
       go_ret
       exact ⟨by rw [HW.out]; rfl, HB7.out⟩
      | true =>
       go_wp2_with fail
       have h4 := refCount_is m.f5 v7
       rw [P5.out] at h4
       refine h4.mono ?_
       rintro e v8 ⟨rfl, hb⟩
       have HB8 := Lib.hid (HB7.out.trans (hb.mono HB7.out.size)); have HX8 := Lib.hid (HX7.out.below hb); have HM8 := Lib.hid (HM7.out.below hb)
       clear h4 hb HB7 HX7 HM7 a0 a1 a2 a3 a4 a5 a6 a7 a8 a9 a10 a11 a12 a13 a14 a15 a16
       obtain ⟨a0, a1, a2, a3, a4, a5, a6, a7, a8, a9, a10, a11, a12, a13, a14, a15, a16⟩ := HX8.out.cell
       cases p5 with
       | false =>
        have HW := Lib.hid (show q = false by rw [HV.out]; simp)
        go_wp2_with fail
        go_ret
        exact ⟨by rw [HW.out]; rfl, HB8.out⟩
       | true =>
        go_wp2_with fail
        have h4 := refCount_is m.f6 v8
        rw [P6.out] at h4
        refine h4.mono ?_
        rintro e v9 ⟨rfl, hb⟩
        have HB9 := Lib.hid (HB8.out.trans (hb.mono HB8.out.size)); have HX9 := Lib.hid (HX8.out.below hb); have HM9 := Lib.hid (HM8.out.below hb)
        clear h4 hb HB8 HX8 HM8 a0 a1 a2 a3 a4 a5 a6 a7 a8 a9 a10 a11 a12 a13 a14 a15 a16
        obtain ⟨a0, a1, a2, a3, a4, a5, a6, a7, a8, a9, a10, a11, a12, a13, a14, a15, a16⟩ := HX9.out.cell
        cases p6 with
        | false =>
         have HW := Lib.hid (show q = false by rw [HV.out]; simp)
         go_wp2_with fail
         go_ret
         exact ⟨by rw [HW.out]; rfl, HB9.out⟩
        | true =>
         cases k3 with
         | true =>
          obtain ⟨r, hr⟩ : ∃ r, mayLs m.f8 = r := ⟨_, rfl⟩
          have HW := Lib.hid (show q = r by rw [HV.out, HS.out, ← hr]; simp)
          have HR := Lib.hid hr
          clear hr
          go_wp2_with fail
          have h4 := refList_is A8 c8 m.f8 v9 HM9.out.g8
          rw [HR.out] at h4
          refine h4.mono ?_
          rintro e v10 ⟨rfl, hb⟩
          have HB10 := Lib.hid (HB9.out.trans (hb.mono HB9.out.size)); have HX10 := Lib.hid (HX9.out.below hb); have HM10 := Lib.hid (HM9.out.below hb)
          clear h4 hb HB9 HX9 HM9 a0 a1 a2 a3 a4 a5 a6 a7 a8 a9 a10 a11 a12 a13 a14 a15 a16
          obtain ⟨a0, a1, a2, a3, a4, a5, a6, a7, a8, a9, a10, a11, a12, a13, a14, a15, a16⟩ := HX10.out.cell
          go_wp2_with fail
          go_ret
          exact ⟨by rw [HW.out]; rfl, HB10.out⟩
         | false =>
          cases k6 with
          | true =>
           obtain ⟨r, hr⟩ : ∃ r, mayE m.f9.f0 m.f9.f1 m.f9.f2 m.f9.f3 = r := ⟨_, rfl⟩
           have HW := Lib.hid (show q = r by rw [HV.out, HS.out, ← hr]; simp)
           have HR := Lib.hid hr
           clear hr
           go_wp2_with fail
           have h4 := refMayEn_is m.f9.f0 m.f9.f1 m.f9.f2 A12 c12 m.f9.f3 v9 HM9.out.g12 HM9.out.l12
           rw [HR.out] at h4
           refine h4.mono ?_
           rintro e v10 ⟨rfl, hb⟩
           have HB10 := Lib.hid (HB9.out.trans (hb.mono HB9.out.size)); have HX10 := Lib.hid (HX9.out.below hb); have HM10 := Lib.hid (HM9.out.below hb)
           clear h4 hb HB9 HX9 HM9 a0 a1 a2 a3 a4 a5 a6 a7 a8 a9 a10 a11 a12 a13 a14 a15 a16
           obtain ⟨a0, a1, a2, a3, a4, a5, a6, a7, a8, a9, a10, a11, a12, a13, a14, a15, a16⟩ := HX10.out.cell
           go_wp2_with fail
           go_ret
           exact ⟨by rw [HW.out]; rfl, HB10.out⟩
          | false =>
           cases k5 with
           | true =>
            obtain ⟨r, hr⟩ : ∃ r, mayPt m.f10 = r := ⟨_, rfl⟩
            have HW := Lib.hid (show q = r by rw [HV.out, HS.out, ← hr]; simp)
            have HR := Lib.hid hr
            clear hr
            go_wp2_with fail
            have h4 := refPart_is m.f10 HM9.out.l16 HM9.out.g16
            rw [HR.out] at h4
            refine h4.mono ?_
            rintro e v10 ⟨rfl, hb⟩
            have HB10 := Lib.hid (HB9.out.trans (hb.mono HB9.out.size)); have HX10 := Lib.hid (HX9.out.below hb); have HM10 := Lib.hid (HM9.out.below hb)
            clear h4 hb HB9 HX9 HM9 a0 a1 a2 a3 a4 a5 a6 a7 a8 a9 a10 a11 a12 a13 a14 a15 a16
            obtain ⟨a0, a1, a2, a3, a4, a5, a6, a7, a8, a9, a10, a11, a12, a13, a14, a15, a16⟩ := HX10.out.cell
            go_wp2_with fail
            go_ret
            exact ⟨by rw [HW.out]; rfl, HB10.out⟩
           | false =>
            have HW := Lib.hid (show q = true by rw [HV.out, HS.out]; simp)
            go_wp2_with fail
            go_ret
            exact ⟨by rw [HW.out]; rfl, HB9.out⟩
end Go.Proofs.YtgiefblcckikeaaGreat.M
end

section
/- The reference's Unmarshal (printed by genunm04.py). -/
attribute [local irreducible] Go.wpStill
namespace Go.Proofs.YtgiefblcckikeaaGreat.M
open Go.RowKit Go.Proofs.YtgiefblcckikeaaGreatW.PrintWords Go.Proofs.YtgiefblcckikeaaGreatW.PrintLast Go.Proofs.YtgiefblcckikeaaGreatW.PrintMore Go.Proofs.YtgiefblcckikeaaGreat.G
set_option maxHeartbeats 4000000 in
theorem refUnm_is (A : Option Addr) (c : Nat) (l : List Int) (w : World) (hr : Kd.C (Kd.int .u8) w A l.length l) (hc : l.length ≤ c) (hb : okB l = true) (hl : l.length < 140737488355328) :
  Calls Tryz.prog 26 #[.slice A l.length c] w fun e w' => MsT w (unm l).1 (unm l).2 e w' := by
 obtain ⟨d, hd⟩ : ∃ d, (takeSeal l).1 = d := ⟨_, rfl⟩
 obtain ⟨n, hn⟩ : ∃ n, (takeSeal l).2.1 = n := ⟨_, rfl⟩
 obtain ⟨er, her⟩ : ∃ er, (takeSeal l).2.2 = er := ⟨_, rfl⟩
 have hok := takeSeal_ok hb hl
 rw [hd] at hok
 have HOK := Lib.hid hok
 have HU := Lib.hid (show unm l = if ¬ er = 0 then (zM, er) else if n < (l.length : Int) then (zM, 13) else takeMs d by unfold unm; rw [hd, hn, her])
 have HS := Lib.hid (refUnseal_calls A c l (w.alloc (.cells #[.int .i64 0, .int .i64 0, .int .i64 0, .int .i64 0, .int .i64 0, .int .i64 0, .int .i64 0, .bool false, .slice none 0 0, .int .i64 0, .int .i64 0, .int .i64 0, .slice none 0 0, .int .i64 0, .int .i64 0, .int .i64 0, .slice none 0 0] 34)) (Kd.C_alloc hr _) hc hb hl)
 rw [hd, hn, her] at HS
 have hg := heap_alloc_new w (.cells #[.int .i64 0, .int .i64 0, .int .i64 0, .int .i64 0, .int .i64 0, .int .i64 0, .int .i64 0, .bool false, .slice none 0 0, .int .i64 0, .int .i64 0, .int .i64 0, .slice none 0 0, .int .i64 0, .int .i64 0, .int .i64 0, .slice none 0 0] 34)
 have hbz := (Below.refl _ w).alloc (Nat.le_refl _) (.cells #[.int .i64 0, .int .i64 0, .int .i64 0, .int .i64 0, .int .i64 0, .int .i64 0, .int .i64 0, .bool false, .slice none 0 0, .int .i64 0, .int .i64 0, .int .i64 0, .slice none 0 0, .int .i64 0, .int .i64 0, .int .i64 0, .slice none 0 0] 34)
 have hz : (w.alloc (.cells #[.int .i64 0, .int .i64 0, .int .i64 0, .int .i64 0, .int .i64 0, .int .i64 0, .int .i64 0, .bool false, .slice none 0 0, .int .i64 0, .int .i64 0, .int .i64 0, .slice none 0 0, .int .i64 0, .int .i64 0, .int .i64 0, .slice none 0 0] 34)).heap.size = w.heap.size + 1 := by simp
 clear hd hn her hok hr hc hb hl
 go_enter Tryz.func26, Tryz.ntmps26
 go_upto_region 1 with fail
 obtain ⟨wA, hw⟩ : ∃ W, w.alloc (.cells #[.int .i64 0, .int .i64 0, .int .i64 0, .int .i64 0, .int .i64 0, .int .i64 0, .int .i64 0, .bool false, .slice none 0 0, .int .i64 0, .int .i64 0, .int .i64 0, .slice none 0 0, .int .i64 0, .int .i64 0, .int .i64 0, .slice none 0 0] 34) = W := ⟨_, rfl⟩
 rw [hw] at HS hg hbz hz ⊢
 clear hw
 go_wp2_with fail
 refine HS.out.mono ?_
 rintro e w1 ⟨v, rfl, ho, hb1⟩
 obtain ⟨Ad, cd, rfl⟩ := Own.form ho
 have HO := Lib.hid (Kd.R_reads' ho)
 have HG := Lib.hid ((hb1.block w.heap.size (by omega)).trans hg)
 have HZ := Lib.hid (show w.heap.size < w1.heap.size by have := hb1.size; omega)
 have HB := Lib.hid (hbz.trans (hb1.mono (by omega)))
 clear ho hb1 hg hbz hz HS
 by_cases he : er = 0
 case neg =>
  have HR := Lib.hid (show unm l = (zM, er) by rw [HU.out, if_pos he])
  have q : (er != 0) = true := bne_iff_ne.2 he
  clear he HU
  go_upto_region 3 with fail
  refine wp_region_list ?_
  refine wpList_cut 2 ?_
  simp only [List.take_succ_cons, List.take_zero, List.drop_succ_cons, List.drop_zero]
  go_wp2_with fail
  refine Halt.mk ?_
  refine wpList_store_row rfl 34 (.tmp 2) (.tmp 18) rfl w.heap.size #[.int .i64 0, .int .i64 0, .int .i64 0, .int .i64 0, .int .i64 0, .int .i64 0, .int .i64 0, .bool false, .slice none 0 0, .int .i64 0, .int .i64 0, .int .i64 0, .slice none 0 0, .int .i64 0, .int .i64 0, .int .i64 0, .slice none 0 0] rfl rfl 34 #[.int .i64 0, .int .i64 0, .int .i64 0, .int .i64 0, .int .i64 0, .int .i64 0, .int .i64 0, .bool false, .slice none 0 0, .int .i64 0, .int .i64 0, .int .i64 0, .slice none 0 0, .int .i64 0, .int .i64 0, .int .i64 0, .slice none 0 0] HG.out (by kernel_rfl) rfl (by simp [Value.oneCell']) ?_
  have HEB := Lib.hid (setRow_heap w1 w.heap.size #[.int .i64 0, .int .i64 0, .int .i64 0, .int .i64 0, .int .i64 0, .int .i64 0, .int .i64 0, .bool false, .slice none 0 0, .int .i64 0, .int .i64 0, .int .i64 0, .slice none 0 0, .int .i64 0, .int .i64 0, .int .i64 0, .slice none 0 0] #[.int .i64 0, .int .i64 0, .int .i64 0, .int .i64 0, .int .i64 0, .int .i64 0, .int .i64 0, .bool false, .slice none 0 0, .int .i64 0, .int .i64 0, .int .i64 0, .slice none 0 0, .int .i64 0, .int .i64 0, .int .i64 0, .slice none 0 0] 34 (0, 0) HG.out)
  have HBE := Lib.hid (setRow_below (cs := #[.int .i64 0, .int .i64 0, .int .i64 0, .int .i64 0, .int .i64 0, .int .i64 0, .int .i64 0, .bool false, .slice none 0 0, .int .i64 0, .int .i64 0, .int .i64 0, .slice none 0 0, .int .i64 0, .int .i64 0, .int .i64 0, .slice none 0 0]) (cs' := #[.int .i64 0, .int .i64 0, .int .i64 0, .int .i64 0, .int .i64 0, .int .i64 0, .int .i64 0, .bool false, .slice none 0 0, .int .i64 0, .int .i64 0, .int .i64 0, .slice none 0 0, .int .i64 0, .int .i64 0, .int .i64 0, .slice none 0 0]) (t := 34) HB.out (Nat.le_refl _))
  obtain ⟨W, hW⟩ : ∃ W, w1.setRow w.heap.size #[.int .i64 0, .int .i64 0, .int .i64 0, .int .i64 0, .int .i64 0, .int .i64 0, .int .i64 0, .bool false, .slice none 0 0, .int .i64 0, .int .i64 0, .int .i64 0, .slice none 0 0, .int .i64 0, .int .i64 0, .int .i64 0, .slice none 0 0] = W := ⟨_, rfl⟩
  rw [hW] at HEB HBE ⊢
  clear hW
  go_wp2_with fail
  refine bodyPost_ret (results_ct rfl _ _ w.heap.size 34 #[.int .i64 0, .int .i64 0, .int .i64 0, .int .i64 0, .int .i64 0, .int .i64 0, .int .i64 0, .bool false, .slice none 0 0, .int .i64 0, .int .i64 0, .int .i64 0, .slice none 0 0, .int .i64 0, .int .i64 0, .int .i64 0, .slice none 0 0] (0, 0) _ rfl HEB.out Tryz.underlying34 rfl (by kernel_rfl)) rfl ?_
  rw [HR.out]
  exact ⟨_, _, _, rfl, Kd.R_nil _ _ _ _ _, Kd.R_nil _ _ _ _ _, Kd.R_nil _ _ _ _ _, HBE.out⟩
 case pos =>
  have q : (er != 0) = false := by rw [he]; rfl
  by_cases hn : n < (l.length : Int)
  case pos =>
   have HR := Lib.hid (show unm l = (zM, 13) by rw [HU.out, if_neg (fun q => q he), if_pos hn])
   have q2 : decide (n < (l.length : Int)) = true := decide_eq_true hn
   clear he hn HU
   go_upto_region 5 with fail
   refine wp_region_list ?_
   refine wpList_cut 1 ?_
   simp only [List.take_succ_cons, List.take_zero, List.drop_succ_cons, List.drop_zero]
   go_wp2_with fail
   refine Halt.mk ?_
   refine wpList_store_row rfl 34 (.tmp 2) (.tmp 24) rfl w.heap.size #[.int .i64 0, .int .i64 0, .int .i64 0, .int .i64 0, .int .i64 0, .int .i64 0, .int .i64 0, .bool false, .slice none 0 0, .int .i64 0, .int .i64 0, .int .i64 0, .slice none 0 0, .int .i64 0, .int .i64 0, .int .i64 0, .slice none 0 0] rfl rfl 34 #[.int .i64 0, .int .i64 0, .int .i64 0, .int .i64 0, .int .i64 0, .int .i64 0, .int .i64 0, .bool false, .slice none 0 0, .int .i64 0, .int .i64 0, .int .i64 0, .slice none 0 0, .int .i64 0, .int .i64 0, .int .i64 0, .slice none 0 0] HG.out (by kernel_rfl) rfl (by simp [Value.oneCell']) ?_
   have HEB := Lib.hid (setRow_heap w1 w.heap.size #[.int .i64 0, .int .i64 0, .int .i64 0, .int .i64 0, .int .i64 0, .int .i64 0, .int .i64 0, .bool false, .slice none 0 0, .int .i64 0, .int .i64 0, .int .i64 0, .slice none 0 0, .int .i64 0, .int .i64 0, .int .i64 0, .slice none 0 0] #[.int .i64 0, .int .i64 0, .int .i64 0, .int .i64 0, .int .i64 0, .int .i64 0, .int .i64 0, .bool false, .slice none 0 0, .int .i64 0, .int .i64 0, .int .i64 0, .slice none 0 0, .int .i64 0, .int .i64 0, .int .i64 0, .slice none 0 0] 34 (0, 0) HG.out)
   have HBE := Lib.hid (setRow_below (cs := #[.int .i64 0, .int .i64 0, .int .i64 0, .int .i64 0, .int .i64 0, .int .i64 0, .int .i64 0, .bool false, .slice none 0 0, .int .i64 0, .int .i64 0, .int .i64 0, .slice none 0 0, .int .i64 0, .int .i64 0, .int .i64 0, .slice none 0 0]) (cs' := #[.int .i64 0, .int .i64 0, .int .i64 0, .int .i64 0, .int .i64 0, .int .i64 0, .int .i64 0, .bool false, .slice none 0 0, .int .i64 0, .int .i64 0, .int .i64 0, .slice none 0 0, .int .i64 0, .int .i64 0, .int .i64 0, .slice none 0 0]) (t := 34) HB.out (Nat.le_refl _))
   obtain ⟨W, hW⟩ : ∃ W, w1.setRow w.heap.size #[.int .i64 0, .int .i64 0, .int .i64 0, .int .i64 0, .int .i64 0, .int .i64 0, .int .i64 0, .bool false, .slice none 0 0, .int .i64 0, .int .i64 0, .int .i64 0, .slice none 0 0, .int .i64 0, .int .i64 0, .int .i64 0, .slice none 0 0] = W := ⟨_, rfl⟩
   rw [hW] at HEB HBE ⊢
   clear hW
   go_wp2_with fail
   refine bodyPost_ret (results_ct rfl _ _ w.heap.size 34 #[.int .i64 0, .int .i64 0, .int .i64 0, .int .i64 0, .int .i64 0, .int .i64 0, .int .i64 0, .bool false, .slice none 0 0, .int .i64 0, .int .i64 0, .int .i64 0, .slice none 0 0, .int .i64 0, .int .i64 0, .int .i64 0, .slice none 0 0] (0, 0) _ rfl HEB.out Tryz.underlying34 rfl (by kernel_rfl)) rfl ?_
   rw [HR.out]
   exact ⟨_, _, _, rfl, Kd.R_nil _ _ _ _ _, Kd.R_nil _ _ _ _ _, Kd.R_nil _ _ _ _ _, HBE.out⟩
  case neg =>
   have q2 : decide (n < (l.length : Int)) = false := decide_eq_false hn
   have HR0 := Lib.hid (show unm l = takeMs d by rw [HU.out, if_neg (fun q => q he), if_neg hn])
   clear he hn HU
   obtain ⟨y, hy⟩ : ∃ y, (rMsg ⟨d, 0, false⟩).1 = y := ⟨_, rfl⟩
   obtain ⟨s', hs⟩ : ∃ t, (rMsg ⟨d, 0, false⟩).2 = t := ⟨_, rfl⟩
   have h0 := heap_alloc_new w1 (.cells #[.slice Ad d.length cd, .int .i64 0, .int .i64 0, .bool false] 86)
   have hb2 := (Below.refl _ w1).alloc (Nat.le_refl _) (.cells #[.slice Ad d.length cd, .int .i64 0, .int .i64 0, .bool false] 86)
   have hI : IsRd d w1 (w1.alloc (.cells #[.slice Ad d.length cd, .int .i64 0, .int .i64 0, .bool false] 86)) w1.heap.size ⟨d, 0, false⟩ := ⟨Ad, cd, 0, h0, Nat.le_refl _, HO.out.2.1, HO.out.2.2, Nat.zero_le _, rfl, HOK.out.2⟩
   have HN := Lib.hid (rdMsg_is hI hb2 HOK.out)
   rw [hy, hs] at HN
   obtain ⟨e2, he2⟩ : ∃ e2, eEnds (rEnd s') (mayMs y) false = e2 := ⟨_, rfl⟩
   have HR1 := Lib.hid (show unm l = if e2 = 0 then (y, 0) else (zM, e2) by rw [HR0.out, takeMs_r, hy, hs, ← he2]; rfl)
   have HE2 := Lib.hid he2
   clear h0 hI hy hs he2 HR0
   go_wp2_with fail
   obtain ⟨w2, hw⟩ : ∃ W, w1.alloc (.cells #[.slice Ad d.length cd, .int .i64 0, .int .i64 0, .bool false] 86) = W := ⟨_, rfl⟩
   rw [hw] at HN hb2 ⊢
   refine HN.out.mono ?_
   rintro e w3 ⟨v8, v12, v16, rfl, r8, r12, r16, hI, hB, hK⟩
   obtain ⟨A8, c8, rfl⟩ := Kd.R_slice r8
   obtain ⟨A12, c12, rfl⟩ := Kd.R_slice r12
   obtain ⟨A16, c16, rfl⟩ := Kd.R_slice r16
   have HI := Lib.hid hI
   have HB3 := Lib.hid hB
   have HX2 := Lib.hid (show w1.heap.size < w2.heap.size by rw [← hw]; simp)
   have HX3 := Lib.hid (Nat.lt_of_lt_of_le HX2.out hK.size)
   have HZ2 := Lib.hid (show w.heap.size < w2.heap.size from Nat.lt_trans HZ.out HX2.out)
   clear hw
   have HSZ := Lib.hid (show w.heap.size ≤ w2.heap.size from Nat.le_trans (Nat.le_of_lt HZ.out) hb2.size)
   have HV8 := Lib.hid r8
   have HV12 := Lib.hid r12
   have HV16 := Lib.hid r16
   clear r8 r12 r16 hI hB hK hb2 HN q q2
   go_upto_region 8 with fail
   have hby := heap_alloc_new w3 (.cells #[.int .i64 y.f0, .int .i64 y.f1, .int .i64 y.f2, .int .i64 y.f3, .int .i64 y.f4, .int .i64 y.f5, .int .i64 y.f6, .bool y.f7, .slice A8 y.f8.length c8, .int .i64 y.f9.f0, .int .i64 y.f9.f1, .int .i64 y.f9.f2, .slice A12 y.f9.f3.length c12, .int .i64 y.f10.f0, .int .i64 y.f10.f1, .int .i64 y.f10.f2, .slice A16 y.f10.f3.length c16] 34)
   have hay := (Below.refl _ w3).alloc (Nat.le_refl _) (.cells #[.int .i64 y.f0, .int .i64 y.f1, .int .i64 y.f2, .int .i64 y.f3, .int .i64 y.f4, .int .i64 y.f5, .int .i64 y.f6, .bool y.f7, .slice A8 y.f8.length c8, .int .i64 y.f9.f0, .int .i64 y.f9.f1, .int .i64 y.f9.f2, .slice A12 y.f9.f3.length c12, .int .i64 y.f10.f0, .int .i64 y.f10.f1, .int .i64 y.f10.f2, .slice A16 y.f10.f3.length c16] 34)
   obtain ⟨w4, hw⟩ : ∃ W, w3.alloc (.cells #[.int .i64 y.f0, .int .i64 y.f1, .int .i64 y.f2, .int .i64 y.f3, .int .i64 y.f4, .int .i64 y.f5, .int .i64 y.f6, .bool y.f7, .slice A8 y.f8.length c8, .int .i64 y.f9.f0, .int .i64 y.f9.f1, .int .i64 y.f9.f2, .slice A12 y.f9.f3.length c12, .int .i64 y.f10.f0, .int .i64 y.f10.f1, .int .i64 y.f10.f2, .slice A16 y.f10.f3.length c16] 34) = W := ⟨_, rfl⟩
   rw [hw] at hby hay ⊢
   clear hw
   have HI4 := Lib.hid (HI.out.below hay)
   have HB4 := Lib.hid (HB3.out.trans (hay.mono HB3.out.size))
   have HW8 := Lib.hid (Kd.R_below HV8.out hay)
   have HW12 := Lib.hid (Kd.R_below HV12.out hay)
   have HW16 := Lib.hid (Kd.R_below HV16.out hay)
   obtain ⟨g, hg⟩ : ∃ g, w3.heap.size = g := ⟨_, rfl⟩
   have hxg : w1.heap.size < g := by rw [← hg]; exact HX3.out
   have hgz : g < w4.heap.size := by rw [← hg]; exact (Array.getElem?_eq_some_iff.1 hby).1
   rw [hg] at hby ⊢
   have HY4 := Lib.hid hby
   have HGZ := Lib.hid hgz
   clear hby hay hg hgz HI HB3 HV8 HV12 HV16
   have HXG := Lib.hid hxg
   clear hxg
   go_wp2_with fail
   refine (rdEnd_is HI4.out HB4.out).mono ?_
   rintro e w5 ⟨rfl, h1, h2, h3⟩
   have HY5 := Lib.hid ((h3.block g HGZ.out (by have := HXG.out; omega)).trans HY4.out)
   have HI5 := Lib.hid h1; have HB5 := Lib.hid h2
   have HX8 := Lib.hid (R_keep' HX2.out HW8.out h3)
   have HX12 := Lib.hid (R_keep' HX2.out HW12.out h3)
   have HX16 := Lib.hid (R_keep' HX2.out HW16.out h3)
   have HGZ5 := Lib.hid (Nat.lt_of_lt_of_le HGZ.out h3.size)
   clear h1 h2 h3 HI4 HB4 HY4 HW8 HW12 HW16 HGZ
   go_upto_region 9 with fail
   refine wp_region_list ?_
   refine wpList_cut 1 ?_
   simp only [List.take_succ_cons, List.take_zero, List.drop_succ_cons, List.drop_zero]
   go_wp2_with fail
   refine Halt.mk ?_
   refine wpList_load_row rfl 34 (.tmp 8) rfl g rfl 34 #[.int .i64 y.f0, .int .i64 y.f1, .int .i64 y.f2, .int .i64 y.f3, .int .i64 y.f4, .int .i64 y.f5, .int .i64 y.f6, .bool y.f7, .slice A8 y.f8.length c8, .int .i64 y.f9.f0, .int .i64 y.f9.f1, .int .i64 y.f9.f2, .slice A12 y.f9.f3.length c12, .int .i64 y.f10.f0, .int .i64 y.f10.f1, .int .i64 y.f10.f2, .slice A16 y.f10.f3.length c16] (0, 0) _ HY5.out Tryz.underlying34 rfl (by kernel_rfl) ?_
   go_wp2_with fail
   have hm : MsgC w5 y A8 c8 A12 c12 A16 c16 := ⟨(Kd.R_reads' HX8.out).2.1, (Kd.R_reads' HX8.out).2.2, (Kd.R_reads' HX12.out).2.1, (Kd.R_reads' HX12.out).2.2, (Kd.R_reads' HX16.out).2.1, (Kd.R_reads' HX16.out).2.2⟩
   refine (refMayMs_is y hm).mono ?_
   rintro e w6 ⟨rfl, hb⟩
   have HI6 := Lib.hid (HI5.out.below hb)
   have HB6 := Lib.hid (HB5.out.trans (hb.mono HB5.out.size))
   have HY6 := Lib.hid ((hb.block g HGZ5.out).trans HY5.out)
   have HU8 := Lib.hid (Kd.R_below HX8.out hb)
   have HU12 := Lib.hid (Kd.R_below HX12.out hb)
   have HU16 := Lib.hid (Kd.R_below HX16.out hb)
   have HG6 := Lib.hid ((HB6.out.block w.heap.size HZ.out).trans HG.out)
   have HBW := Lib.hid (HB.out.trans (HB6.out.mono (Nat.le_of_lt HZ.out)))
   clear hm hb HI5 HB5 HY5 HX8 HX12 HX16 HGZ5
   have HE := rdEnds_is HI6.out (mayMs y)
   rw [HE2.out] at HE
   have HE := Lib.hid HE
   go_wp2_with fail
   refine HE.out.mono ?_
   rintro e w7 ⟨rfl, rfl⟩
   clear HE
   by_cases he : e2 = 0
   case pos =>
    have HR := Lib.hid (show unm l = (y, 0) by rw [HR1.out, if_pos he])
    have q : (e2 != 0) = false := by rw [he]; rfl
    clear he HR1
    go_upto_region 12 with fail
    refine wp_region_list ?_
    refine wpList_load_row rfl 34 (.tmp 8) rfl g rfl 34 #[.int .i64 y.f0, .int .i64 y.f1, .int .i64 y.f2, .int .i64 y.f3, .int .i64 y.f4, .int .i64 y.f5, .int .i64 y.f6, .bool y.f7, .slice A8 y.f8.length c8, .int .i64 y.f9.f0, .int .i64 y.f9.f1, .int .i64 y.f9.f2, .slice A12 y.f9.f3.length c12, .int .i64 y.f10.f0, .int .i64 y.f10.f1, .int .i64 y.f10.f2, .slice A16 y.f10.f3.length c16] (0, 0) _ HY6.out Tryz.underlying34 rfl (by kernel_rfl) ?_
    refine wpList_store_row rfl 34 (.tmp 2) (.tmp 40) rfl w.heap.size #[.int .i64 y.f0, .int .i64 y.f1, .int .i64 y.f2, .int .i64 y.f3, .int .i64 y.f4, .int .i64 y.f5, .int .i64 y.f6, .bool y.f7, .slice A8 y.f8.length c8, .int .i64 y.f9.f0, .int .i64 y.f9.f1, .int .i64 y.f9.f2, .slice A12 y.f9.f3.length c12, .int .i64 y.f10.f0, .int .i64 y.f10.f1, .int .i64 y.f10.f2, .slice A16 y.f10.f3.length c16] rfl rfl 34 #[.int .i64 0, .int .i64 0, .int .i64 0, .int .i64 0, .int .i64 0, .int .i64 0, .int .i64 0, .bool false, .slice none 0 0, .int .i64 0, .int .i64 0, .int .i64 0, .slice none 0 0, .int .i64 0, .int .i64 0, .int .i64 0, .slice none 0 0] HG6.out (by kernel_rfl) rfl (by simp [Value.oneCell']) ?_
    have HEB := Lib.hid (setRow_heap w7 w.heap.size #[.int .i64 0, .int .i64 0, .int .i64 0, .int .i64 0, .int .i64 0, .int .i64 0, .int .i64 0, .bool false, .slice none 0 0, .int .i64 0, .int .i64 0, .int .i64 0, .slice none 0 0, .int .i64 0, .int .i64 0, .int .i64 0, .slice none 0 0] #[.int .i64 y.f0, .int .i64 y.f1, .int .i64 y.f2, .int .i64 y.f3, .int .i64 y.f4, .int .i64 y.f5, .int .i64 y.f6, .bool y.f7, .slice A8 y.f8.length c8, .int .i64 y.f9.f0, .int .i64 y.f9.f1, .int .i64 y.f9.f2, .slice A12 y.f9.f3.length c12, .int .i64 y.f10.f0, .int .i64 y.f10.f1, .int .i64 y.f10.f2, .slice A16 y.f10.f3.length c16] 34 (0, 0) HG6.out)
    have HBE := Lib.hid (setRow_below (cs := #[.int .i64 0, .int .i64 0, .int .i64 0, .int .i64 0, .int .i64 0, .int .i64 0, .int .i64 0, .bool false, .slice none 0 0, .int .i64 0, .int .i64 0, .int .i64 0, .slice none 0 0, .int .i64 0, .int .i64 0, .int .i64 0, .slice none 0 0]) (cs' := #[.int .i64 y.f0, .int .i64 y.f1, .int .i64 y.f2, .int .i64 y.f3, .int .i64 y.f4, .int .i64 y.f5, .int .i64 y.f6, .bool y.f7, .slice A8 y.f8.length c8, .int .i64 y.f9.f0, .int .i64 y.f9.f1, .int .i64 y.f9.f2, .slice A12 y.f9.f3.length c12, .int .i64 y.f10.f0, .int .i64 y.f10.f1, .int .i64 y.f10.f2, .slice A16 y.f10.f3.length c16]) (t := 34) HBW.out (Nat.le_refl _))
    obtain ⟨W, hW⟩ : ∃ W, w7.setRow w.heap.size #[.int .i64 y.f0, .int .i64 y.f1, .int .i64 y.f2, .int .i64 y.f3, .int .i64 y.f4, .int .i64 y.f5, .int .i64 y.f6, .bool y.f7, .slice A8 y.f8.length c8, .int .i64 y.f9.f0, .int .i64 y.f9.f1, .int .i64 y.f9.f2, .slice A12 y.f9.f3.length c12, .int .i64 y.f10.f0, .int .i64 y.f10.f1, .int .i64 y.f10.f2, .slice A16 y.f10.f3.length c16] = W := ⟨_, rfl⟩
    rw [hW] at HEB HBE ⊢
    have hkp : ∀ k, k < w7.heap.size → k ≠ w.heap.size → W.heap[k]? = w7.heap[k]? := fun k _ hne => by rw [← hW]; exact setRow_other w7 w.heap.size k _ hne
    have HQ8 := Lib.hid (Kd.R_mono (Kd.R_step (Kd.R_lower (Kd.R_bound HU8.out) HSZ.out) (fun k hk hlt => hkp k hlt (by have h1 := hk.2.1; have h2 := HZ2.out; omega))) (fun _ _ => trivial) : Kd.R G.k63 63 W w.heap.size (fun _ => True) _ _)
    have HQ12 := Lib.hid (Kd.R_mono (Kd.R_step (Kd.R_lower (Kd.R_bound HU12.out) HSZ.out) (fun k hk hlt => hkp k hlt (by have h1 := hk.2.1; have h2 := HZ2.out; omega))) (fun _ _ => trivial) : Kd.R G.k26 26 W w.heap.size (fun _ => True) _ _)
    have HQ16 := Lib.hid (Kd.R_mono (Kd.R_step (Kd.R_lower (Kd.R_bound HU16.out) HSZ.out) (fun k hk hlt => hkp k hlt (by have h1 := hk.2.1; have h2 := HZ2.out; omega))) (fun _ _ => trivial) : Kd.R (Kd.int .u8) 5 W w.heap.size (fun _ => True) _ _)
    clear hkp
    clear hW
    go_wp2_with fail
    refine bodyPost_ret (results_ct rfl _ _ w.heap.size 34 #[.int .i64 y.f0, .int .i64 y.f1, .int .i64 y.f2, .int .i64 y.f3, .int .i64 y.f4, .int .i64 y.f5, .int .i64 y.f6, .bool y.f7, .slice A8 y.f8.length c8, .int .i64 y.f9.f0, .int .i64 y.f9.f1, .int .i64 y.f9.f2, .slice A12 y.f9.f3.length c12, .int .i64 y.f10.f0, .int .i64 y.f10.f1, .int .i64 y.f10.f2, .slice A16 y.f10.f3.length c16] (0, 0) _ rfl HEB.out Tryz.underlying34 rfl (by kernel_rfl)) rfl ?_
    rw [HR.out]
    exact ⟨_, _, _, rfl, HQ8.out, HQ12.out, HQ16.out, HBE.out⟩
   case neg =>
    have HR := Lib.hid (show unm l = (zM, e2) by rw [HR1.out, if_neg he])
    have q : (e2 != 0) = true := bne_iff_ne.2 he
    clear he HR1
    go_upto_region 11 with fail
    refine wp_region_list ?_
    refine wpList_cut 2 ?_
    simp only [List.take_succ_cons, List.take_zero, List.drop_succ_cons, List.drop_zero]
    go_wp2_with fail
    refine Halt.mk ?_
    refine wpList_store_row rfl 34 (.tmp 2) (.tmp 38) rfl w.heap.size #[.int .i64 0, .int .i64 0, .int .i64 0, .int .i64 0, .int .i64 0, .int .i64 0, .int .i64 0, .bool false, .slice none 0 0, .int .i64 0, .int .i64 0, .int .i64 0, .slice none 0 0, .int .i64 0, .int .i64 0, .int .i64 0, .slice none 0 0] rfl rfl 34 #[.int .i64 0, .int .i64 0, .int .i64 0, .int .i64 0, .int .i64 0, .int .i64 0, .int .i64 0, .bool false, .slice none 0 0, .int .i64 0, .int .i64 0, .int .i64 0, .slice none 0 0, .int .i64 0, .int .i64 0, .int .i64 0, .slice none 0 0] HG6.out (by kernel_rfl) rfl (by simp [Value.oneCell']) ?_
    have HEB := Lib.hid (setRow_heap w7 w.heap.size #[.int .i64 0, .int .i64 0, .int .i64 0, .int .i64 0, .int .i64 0, .int .i64 0, .int .i64 0, .bool false, .slice none 0 0, .int .i64 0, .int .i64 0, .int .i64 0, .slice none 0 0, .int .i64 0, .int .i64 0, .int .i64 0, .slice none 0 0] #[.int .i64 0, .int .i64 0, .int .i64 0, .int .i64 0, .int .i64 0, .int .i64 0, .int .i64 0, .bool false, .slice none 0 0, .int .i64 0, .int .i64 0, .int .i64 0, .slice none 0 0, .int .i64 0, .int .i64 0, .int .i64 0, .slice none 0 0] 34 (0, 0) HG6.out)
    have HBE := Lib.hid (setRow_below (cs := #[.int .i64 0, .int .i64 0, .int .i64 0, .int .i64 0, .int .i64 0, .int .i64 0, .int .i64 0, .bool false, .slice none 0 0, .int .i64 0, .int .i64 0, .int .i64 0, .slice none 0 0, .int .i64 0, .int .i64 0, .int .i64 0, .slice none 0 0]) (cs' := #[.int .i64 0, .int .i64 0, .int .i64 0, .int .i64 0, .int .i64 0, .int .i64 0, .int .i64 0, .bool false, .slice none 0 0, .int .i64 0, .int .i64 0, .int .i64 0, .slice none 0 0, .int .i64 0, .int .i64 0, .int .i64 0, .slice none 0 0]) (t := 34) HBW.out (Nat.le_refl _))
    obtain ⟨W, hW⟩ : ∃ W, w7.setRow w.heap.size #[.int .i64 0, .int .i64 0, .int .i64 0, .int .i64 0, .int .i64 0, .int .i64 0, .int .i64 0, .bool false, .slice none 0 0, .int .i64 0, .int .i64 0, .int .i64 0, .slice none 0 0, .int .i64 0, .int .i64 0, .int .i64 0, .slice none 0 0] = W := ⟨_, rfl⟩
    rw [hW] at HEB HBE ⊢
    clear hW
    go_wp2_with fail
    refine bodyPost_ret (results_ct rfl _ _ w.heap.size 34 #[.int .i64 0, .int .i64 0, .int .i64 0, .int .i64 0, .int .i64 0, .int .i64 0, .int .i64 0, .bool false, .slice none 0 0, .int .i64 0, .int .i64 0, .int .i64 0, .slice none 0 0, .int .i64 0, .int .i64 0, .int .i64 0, .slice none 0 0] (0, 0) _ rfl HEB.out Tryz.underlying34 rfl (by kernel_rfl)) rfl ?_
    rw [HR.out]
    exact ⟨_, _, _, rfl, Kd.R_nil _ _ _ _ _, Kd.R_nil _ _ _ _ _, Kd.R_nil _ _ _ _ _, HBE.out⟩
end Go.Proofs.YtgiefblcckikeaaGreat.M
end

section
/- The reference's TakeEntry (printed by genunm04.py). -/
attribute [local irreducible] Go.wpStill
namespace Go.Proofs.YtgiefblcckikeaaGreat.M
open Go.RowKit Go.Proofs.YtgiefblcckikeaaGreatW.PrintWords Go.Proofs.YtgiefblcckikeaaGreatW.PrintLast Go.Proofs.YtgiefblcckikeaaGreatW.PrintMore Go.Proofs.YtgiefblcckikeaaGreat.G
set_option maxHeartbeats 4000000 in
theorem refTakeEn_is (A : Option Addr) (c : Nat) (l : List Int) (w : World) (hr : Kd.C (Kd.int .u8) w A l.length l) (hc : l.length ≤ c) (hb : okB l = true) (hl : l.length < 140737488355328) :
  Calls Tryz.prog 24 #[.slice A l.length c] w fun e w' => ∃ v : Value, e = .returned (.tuple #[.agg #[.int .i64 (takeEn l).1.1, .int .i64 (takeEn l).1.2.1, .int .i64 (takeEn l).1.2.2.1, v], .int .i64 (takeEn l).2]) ∧ Kd.R G.k26 26 w' w.heap.size (fun _ => True) v (takeEn l).1.2.2.2 ∧ Below w.heap.size w w' := by
 have h0 := heap_alloc_new w (.cells #[.int .i64 0, .int .i64 0, .int .i64 0, .slice none 0 0] 29)
 have s1 : (w.alloc (.cells #[.int .i64 0, .int .i64 0, .int .i64 0, .slice none 0 0] 29)).heap.size = w.heap.size + 1 := by simp
 have h1 := heap_alloc_new (w.alloc (.cells #[.int .i64 0, .int .i64 0, .int .i64 0, .slice none 0 0] 29)) (.cells #[.slice A l.length c, .int .i64 0, .int .i64 0, .bool false] 86)
 have b1 := ((Below.refl _ w).alloc (Nat.le_refl _) (.cells #[.int .i64 0, .int .i64 0, .int .i64 0, .slice none 0 0] 29)).alloc (by simp) (.cells #[.slice A l.length c, .int .i64 0, .int .i64 0, .bool false] 86)
 have g1 : ((w.alloc (.cells #[.int .i64 0, .int .i64 0, .int .i64 0, .slice none 0 0] 29)).alloc (.cells #[.slice A l.length c, .int .i64 0, .int .i64 0, .bool false] 86)).heap[w.heap.size]? = some (.cells #[.int .i64 0, .int .i64 0, .int .i64 0, .slice none 0 0] 29) := (((Below.refl _ (w.alloc (.cells #[.int .i64 0, .int .i64 0, .int .i64 0, .slice none 0 0] 29))).alloc (Nat.le_refl _) (.cells #[.slice A l.length c, .int .i64 0, .int .i64 0, .bool false] 86)).block w.heap.size (by omega)).trans h0
 have s2 : ((w.alloc (.cells #[.int .i64 0, .int .i64 0, .int .i64 0, .slice none 0 0] 29)).alloc (.cells #[.slice A l.length c, .int .i64 0, .int .i64 0, .bool false] 86)).heap.size = w.heap.size + 1 + 1 := by simp
 rw [s1] at h1
 obtain ⟨⟨k, f, n, t⟩, hy⟩ : ∃ y, (rEntry ⟨l, 0, false⟩).1 = y := ⟨_, rfl⟩
 obtain ⟨s', hs⟩ : ∃ s', (rEntry ⟨l, 0, false⟩).2 = s' := ⟨_, rfl⟩
 obtain ⟨er, her⟩ : ∃ er, eEnds (rEnd s') (mayE k f n t) false = er := ⟨_, rfl⟩
 have HR1 := Lib.hid (show takeEn l = if er = 0 then ((k, f, n, t), 0) else ((0, 0, 0, []), er) by rw [takeEn_r, hy, hs, ← her]; rfl)
 have HER := Lib.hid her
 have HOK := Lib.hid (show okS ⟨l, 0, false⟩ from ⟨hb, hl⟩)
 go_enter Tryz.func24, Tryz.ntmps24
 go_wp2_with fail
 obtain ⟨w2, hw2⟩ : ∃ w2, (w.alloc (.cells #[.int .i64 0, .int .i64 0, .int .i64 0, .slice none 0 0] 29)).alloc (.cells #[.slice A l.length c, .int .i64 0, .int .i64 0, .bool false] 86) = w2 := ⟨_, rfl⟩
 obtain ⟨x, hx⟩ : ∃ x, w.heap.size + 1 = x := ⟨_, rfl⟩
 rw [hw2] at h1 s2 b1 g1 ⊢
 rw [hx] at h1 s1 s2 ⊢
 have HN := rdEntry_is (show IsRd l w w2 x ⟨l, 0, false⟩ from ⟨A, c, 0, h1, by omega, hc, hr, Nat.zero_le _, rfl, hl⟩) b1 HOK.out
 rw [hy, hs] at HN
 have HN := Lib.hid HN
 have HX := Lib.hid hx; have HS2 := Lib.hid s2; have HG2 := Lib.hid g1
 clear h0 s1 h1 s2 b1 g1 hw2 hx hy hs her hr hc hb hl
 refine HN.out.mono ?_
 rintro e w3 ⟨v, rfl, hv, h1, h2, h3⟩
 have hv : Kd.R G.k26 26 w3 w2.heap.size (fun _ => True) v t := hv
 obtain ⟨At, ct, rfl⟩ := Kd.R_slice hv
 have HV := Lib.hid hv; have HI3 := Lib.hid h1; have HB3 := Lib.hid h2
 have HXW := Lib.hid (show w.heap.size < x ∧ x < w2.heap.size by have := HS2.out; have := HX.out; omega)
 have HG3 := Lib.hid ((h3.block w.heap.size (by have := HXW.out; omega) (by have := HXW.out; omega)).trans HG2.out)
 have HZ3 := Lib.hid h3.size
 clear hv h1 h2 h3 HN HG2
 go_wp2_with fail
 have hby := heap_alloc_new w3 (.cells #[.int .i64 k, .int .i64 f, .int .i64 n, .slice At t.length ct] 29)
 have hay := (Below.refl _ w3).alloc (Nat.le_refl _) (.cells #[.int .i64 k, .int .i64 f, .int .i64 n, .slice At t.length ct] 29)
 obtain ⟨w4, hw4⟩ : ∃ w4, w3.alloc (.cells #[.int .i64 k, .int .i64 f, .int .i64 n, .slice At t.length ct] 29) = w4 := ⟨_, rfl⟩
 rw [hw4] at hby hay ⊢
 have HI4 := Lib.hid (HI3.out.below hay)
 have HB4 := Lib.hid (HB3.out.trans (hay.mono HB3.out.size))
 have HG4 := Lib.hid ((hay.block w.heap.size (by have := HXW.out; have := HZ3.out; omega)).trans HG3.out)
 have HV4 := Lib.hid (Kd.R_below HV.out hay)
 obtain ⟨g, hg⟩ : ∃ g, w3.heap.size = g := ⟨_, rfl⟩
 have hgz : g < w4.heap.size := by rw [← hg]; exact (Array.getElem?_eq_some_iff.1 hby).1
 rw [hg] at hby HZ3 ⊢
 have HY4 := Lib.hid hby; have HGZ := Lib.hid hgz
 clear hw4 hg hby hay hgz HI3 HB3 HG3 HV
 refine (rdEnd_is HI4.out HB4.out).mono ?_
 rintro e w5 ⟨rfl, h1, h2, h3⟩
 have HI5 := Lib.hid h1; have HB5 := Lib.hid h2
 have HG5 := Lib.hid ((h3.block w.heap.size (by have := HXW.out; have := HZ3.out; have := HGZ.out; omega) (by have := HXW.out; omega)).trans HG4.out)
 have HY5 := Lib.hid ((h3.block g HGZ.out (by have := HXW.out; have := HZ3.out; omega)).trans HY4.out)
 have HV5 := Lib.hid (R_keep' HXW.out.2 HV4.out h3)
 have HGZ5 := Lib.hid (Nat.lt_of_lt_of_le HGZ.out h3.size)
 clear h1 h2 h3 HI4 HB4 HG4 HY4 HV4 HGZ
 have d0 : w5.cell? ⟨g, 0, none⟩ = some (.int .i64 k) := (blk_cell HY5.out 0).trans rfl
 have d1 : w5.cell? ⟨g, 1, none⟩ = some (.int .i64 f) := (blk_cell HY5.out 1).trans rfl
 have d2 : w5.cell? ⟨g, 2, none⟩ = some (.int .i64 n) := (blk_cell HY5.out 2).trans rfl
 have d3 : w5.cell? ⟨g, 3, none⟩ = some (.slice At t.length ct) := (blk_cell HY5.out 3).trans rfl
 go_wp2_with fail
 refine (refMayEn_is k f n At ct t w5 (Kd.R_reads' HV5.out).2.2 (Kd.R_reads' HV5.out).2.1).mono ?_
 rintro e w6 ⟨rfl, hb⟩
 have HI6 := Lib.hid (HI5.out.below hb)
 have HB6 := Lib.hid (HB5.out.trans (hb.mono HB5.out.size))
 have HG6 := Lib.hid ((hb.block w.heap.size (by have := HXW.out; have := HZ3.out; have := HGZ5.out; omega)).trans HG5.out)
 have HY6 := Lib.hid ((hb.block g HGZ5.out).trans HY5.out)
 have HV6 := Lib.hid (Kd.R_below HV5.out hb)
 have HE := rdEnds_is HI6.out (mayE k f n t)
 rw [HER.out] at HE
 have HE := Lib.hid HE
 clear hb d0 d1 d2 d3 HI5 HB5 HG5 HY5 HV5 HGZ5
 go_wp2_with fail
 refine HE.out.mono ?_
 rintro e w7 ⟨rfl, rfl⟩
 have d0 : w7.cell? ⟨g, 0, none⟩ = some (.int .i64 k) := (blk_cell HY6.out 0).trans rfl
 have d1 : w7.cell? ⟨g, 1, none⟩ = some (.int .i64 f) := (blk_cell HY6.out 1).trans rfl
 have d2 : w7.cell? ⟨g, 2, none⟩ = some (.int .i64 n) := (blk_cell HY6.out 2).trans rfl
 have d3 : w7.cell? ⟨g, 3, none⟩ = some (.slice At t.length ct) := (blk_cell HY6.out 3).trans rfl
 have x0 : w7.cell? ⟨w.heap.size, 0, none⟩ = some (.int .i64 0) := (blk_cell HG6.out 0).trans rfl
 have x1 : w7.cell? ⟨w.heap.size, 1, none⟩ = some (.int .i64 0) := (blk_cell HG6.out 1).trans rfl
 have x2 : w7.cell? ⟨w.heap.size, 2, none⟩ = some (.int .i64 0) := (blk_cell HG6.out 2).trans rfl
 have x3 : w7.cell? ⟨w.heap.size, 3, none⟩ = some (.slice none 0 0) := (blk_cell HG6.out 3).trans rfl
 obtain ⟨y0, y1, y2, y3⟩ := bf4 HG6.out
 have HGN : w.heap.size ≠ g := by have := HXW.out; have := HZ3.out; omega
 by_cases he : er = 0
 ·have hq : (er != 0) = false := by rw [he]; rfl
  have HR := Lib.hid (show takeEn l = ((k, f, n, t), 0) by rw [HR1.out, if_pos he])
  clear he
  go_wp2_with fail
  have HEB := Lib.hid (blk_put (cs := #[.int .i64 k, .int .i64 f, .int .i64 n, .slice none 0 0]) (blk_put (cs := #[.int .i64 k, .int .i64 f, .int .i64 0, .slice none 0 0]) (blk_put (cs := #[.int .i64 k, .int .i64 0, .int .i64 0, .slice none 0 0]) (blk_put (cs := #[.int .i64 0, .int .i64 0, .int .i64 0, .slice none 0 0]) HG6.out 0 (.int .i64 k) rfl) 1 (.int .i64 f) rfl) 2 (.int .i64 n) rfl) 3 (.slice At t.length ct) rfl)
  have HKS := Lib.hid (((((KeepS.refl (fun k => k = w.heap.size) w7).set (p := ⟨w.heap.size, 0, none⟩) (.inl rfl) (.int .i64 k)).set (p := ⟨w.heap.size, 1, none⟩) (.inl rfl) (.int .i64 f)).set (p := ⟨w.heap.size, 2, none⟩) (.inl rfl) (.int .i64 n)).set (p := ⟨w.heap.size, 3, none⟩) (.inl rfl) (.slice At t.length ct))
  obtain ⟨W, hW⟩ : ∃ W, ((((w7.setCell ⟨w.heap.size, 0, none⟩ (.int .i64 k)).setCell ⟨w.heap.size, 1, none⟩ (.int .i64 f)).setCell ⟨w.heap.size, 2, none⟩ (.int .i64 n)).setCell ⟨w.heap.size, 3, none⟩ (.slice At t.length ct)) = W := ⟨_, rfl⟩
  rw [hW] at HEB HKS ⊢
  clear hW
  refine bodyPost_ret (results_ct rfl _ _ w.heap.size 29 #[.int .i64 k, .int .i64 f, .int .i64 n, .slice At t.length ct] (0, 0) _ rfl HEB.out Tryz.underlying29 rfl (by kernel_rfl)) rfl ?_
  rw [HR.out]
  exact ⟨_, rfl, Kd.R_mono (Kd.R_step (Kd.R_lower (Kd.R_bound HV6.out) (Nat.le_of_lt (Nat.lt_trans HXW.out.1 HXW.out.2))) (fun k hk hlt => HKS.out.block k hlt (fun (e : k = w.heap.size) => by have := hk.2.1; have := HXW.out; omega))) (fun _ _ => trivial), HB6.out.trans (HKS.out.below (B := w.heap.size) HB6.out.size (by rintro i rfl; exact Nat.le_refl _))⟩
 ·have hq : (er != 0) = true := bne_iff_ne.2 he
  have HR := Lib.hid (show takeEn l = ((0, 0, 0, []), er) by rw [HR1.out, if_neg he])
  clear he
  go_wp2_with fail
  have HEB := Lib.hid (blk_put (cs := #[.int .i64 0, .int .i64 0, .int .i64 0, .slice none 0 0]) (blk_put (cs := #[.int .i64 0, .int .i64 0, .int .i64 0, .slice none 0 0]) (blk_put (cs := #[.int .i64 0, .int .i64 0, .int .i64 0, .slice none 0 0]) (blk_put (cs := #[.int .i64 0, .int .i64 0, .int .i64 0, .slice none 0 0]) HG6.out 0 (.int .i64 0) rfl) 1 (.int .i64 0) rfl) 2 (.int .i64 0) rfl) 3 (.slice none 0 0) rfl)
  have HKS := Lib.hid (((((KeepS.refl (fun k => k = w.heap.size) w7).set (p := ⟨w.heap.size, 0, none⟩) (.inl rfl) (.int .i64 0)).set (p := ⟨w.heap.size, 1, none⟩) (.inl rfl) (.int .i64 0)).set (p := ⟨w.heap.size, 2, none⟩) (.inl rfl) (.int .i64 0)).set (p := ⟨w.heap.size, 3, none⟩) (.inl rfl) (.slice none 0 0))
  obtain ⟨W, hW⟩ : ∃ W, ((((w7.setCell ⟨w.heap.size, 0, none⟩ (.int .i64 0)).setCell ⟨w.heap.size, 1, none⟩ (.int .i64 0)).setCell ⟨w.heap.size, 2, none⟩ (.int .i64 0)).setCell ⟨w.heap.size, 3, none⟩ (.slice none 0 0)) = W := ⟨_, rfl⟩
  rw [hW] at HEB HKS ⊢
  clear hW
  refine bodyPost_ret (results_ct rfl _ _ w.heap.size 29 #[.int .i64 0, .int .i64 0, .int .i64 0, .slice none 0 0] (0, 0) _ rfl HEB.out Tryz.underlying29 rfl (by kernel_rfl)) rfl ?_
  rw [HR.out]
  exact ⟨_, rfl, Kd.R_nil _ _ _ _ _, HB6.out.trans (HKS.out.below (B := w.heap.size) HB6.out.size (by rintro i rfl; exact Nat.le_refl _))⟩
end Go.Proofs.YtgiefblcckikeaaGreat.M
end

section
-- Written by a program of this session's (wip/gprint.py over the kit's printer).
namespace Go.Proofs.YtgiefblcckikeaaGreat.G
open Go.RowKit Go.Proofs.YtgiefblcckikeaaGreatW.PrintWords Go.Proofs.YtgiefblcckikeaaGreatW.PrintLast Go.Proofs.YtgiefblcckikeaaGreatW.PrintMore
attribute [local go_sem] max2_int min2_int max_two min_two max_three min_three max_four min_four   -- for this text's walks alone
def trivetlaw04_simple.f  : Option (Int × Int × Int × (List (S26)) × List Int) := some (1, 2, 5, (([(⟨1, 3, ([] : List Int), ([] : List Int), ([] : List (S101)), ([] : List (S101))⟩ : S26)] : List (S26))), (([2, 1, 2, 2, 2, 5, 2, 1, 2, 1, 2, 3, 0, 0, 0, 0] : List Int)))
set_option maxHeartbeats 8000000 in
set_option maxRecDepth 100000 in
theorem trivetlaw04_simple.calls  (r1 : Int) (r2 : Int) (r3 : Int) (r4 : List (S26)) (r5 : List Int) (w : World) (h : trivetlaw04_simple.f  = some (r1, r2, r3, r4, r5)) :
  Calls Tryz.prog 37 #[] w fun e w' => ∃ v3_ v4_ : Value, e = .returned (.tuple #[.agg #[.int .i64 r1, .int .i64 r2, .int .i64 r3, v3_], v4_]) ∧ Kd.S k26 26 w' w.heap.size (fun k_ => some k_ ≠ (v4_ : Value).ownBlock) v3_ r4 ∧ Kd.R (Kd.int .u8) 5 w' w.heap.size (fun _ => True) v4_ r5 ∧ Below w.heap.size w w' := by
 have hu29 := Tryz.underlying29
 have hu26 := Tryz.underlying26
 have HB := Aside0.mk (Below.refl w.heap.size w)
 have H : (some (1, 2, 5, (([(⟨1, 3, ([] : List Int), ([] : List Int), ([] : List (S101)), ([] : List (S101))⟩ : S26)] : List (S26))), (([2, 1, 2, 2, 2, 5, 2, 1, 2, 1, 2, 3, 0, 0, 0, 0] : List Int)))) = some (r1, r2, r3, r4, r5) := h
 clear h
 obtain ⟨y153, hy153⟩ : ∃ y_ : List (S26), y_ = (([(⟨1, 3, ([] : List Int), ([] : List Int), ([] : List (S101)), ([] : List (S101))⟩ : S26)] : List (S26))) := ⟨_, rfl⟩
 replace H : (some (1, 2, 5, y153, (([2, 1, 2, 2, 2, 5, 2, 1, 2, 1, 2, 3, 0, 0, 0, 0] : List Int)))) = some (r1, r2, r3, r4, r5) := by first | (rw [hy153]; with_reducible exact H) | (have H2_ := (Option.bind_some _ _).symm.trans H; rw [hy153]; with_reducible exact H2_) | (have H2_ := (Option.bind_some _ _).symm.trans H; with_reducible exact H2_) | with_reducible exact H | (rw [hy153]; exact H) | exact H
 have Ny153 := Aside0.mk hy153
 clear hy153
 obtain ⟨y156, hy156⟩ : ∃ y_ : List Int, y_ = (([2, 1, 2, 2, 2, 5, 2, 1, 2, 1, 2, 3, 0, 0, 0, 0] : List Int)) := ⟨_, rfl⟩
 replace H : (some (1, 2, 5, y153, y156)) = some (r1, r2, r3, r4, r5) := by first | (rw [hy156]; with_reducible exact H) | (have H2_ := (Option.bind_some _ _).symm.trans H; rw [hy156]; with_reducible exact H2_) | (have H2_ := (Option.bind_some _ _).symm.trans H; with_reducible exact H2_) | with_reducible exact H | (rw [hy156]; exact H) | exact H
 have Ny156 := Aside0.mk hy156
 clear hy156
 simp only [Option.some.injEq, Prod.mk.injEq] at H
 obtain ⟨rfl, rfl, rfl, rfl, rfl⟩ := H
 go_enter Tryz.func37, Tryz.ntmps37
 go_wp2_with (first | ((with_reducible refine gate_dst (N := 0) rfl ?_); refine box_event ?hg (N := 0) ?hd (cs := #[.int .i64 0, .int .i64 0, .int .i64 0, .slice none 0 0]) (t := 29) ?hr ?_; (case hd => rfl); (case hg => rfl); (case hr => first | (go_simp; done) | (go_simp; rfl)); intro gb152 hg w1 hbox hb; have n0_ := Aside0.mk (below_step (stB HB.out) hb); have n1_ := Aside0.mk (hbox); have n2_ := Aside0.mk ((by rw [hg]; exact (below_size (stB HB.out)) : w.heap.size ≤ gb152)); have n3_ := Aside0.mk ((by rw [hg]; exact (below_size (stB HB.out)) : w.heap.size ≤ gb152)); clear HB; have HB := n0_; have BK152 := n1_; have GW152 := n2_; have GE152 := n3_; clear n0_ n1_ n2_ n3_; clear hb hbox hg) | ((with_reducible refine gate_dst (N := 3) rfl ?_); refine Kd.S_lit k26 _ 26 ?hg (N := 3) ?hd (xs := ([(⟨1, 3, ([] : List Int), ([] : List Int), ([] : List (S101)), ([] : List (S101))⟩ : S26)] : List (S26))) (inner := [.int .i64 1, .int .i64 3, .slice none 0 0, .slice none 0 0, .slice none 0 0, .slice none 0 0]) (ok := fun _ => True) (okp := fun _ => True) ?hr ?hp (fun _ hk => hk) trivial (Below.refl _ _) (Nat.le_refl _) (by simp) ?_; (case hd => rfl); (case hg => rfl); (case hr => first | (go_simp; done) | (go_simp; rfl)); (case hp => exact (Reps.c6 (show Kd.M k26 _ _ _ (⟨1, 3, ([] : List Int), ([] : List Int), ([] : List (S101)), ([] : List (S101))⟩ : S26) [.int .i64 1, .int .i64 3, .slice none 0 0, .slice none 0 0, .slice none 0 0, .slice none 0 0] from (k26_mkM _ _ _ (⟨1, 3, ([] : List Int), ([] : List Int), ([] : List (S101)), ([] : List (S101))⟩ : S26) (Kd.R_nil _ _ _ _ _) (Kd.R_nil _ _ _ _ _) (Kd.R_nil _ _ _ _ _) (Kd.R_nil _ _ _ _ _))) (Reps.none _ _))); intro v154 w2 ho3 hb hg_ hnew_; clear hg_ hnew_; (first | rw [← Ny153.out] at ho3 | (simp only [Int.reduceToNat] at ho3; rw [← Ny153.out] at ho3)); have n0_ := Aside0.mk (Kd.S_lower ho3 (below_size (by repeat (first | (with_reducible first | exact HB.out | apply below_alloc | apply pw_below_drewN | apply below_drew1 | refine below_set ?_ GE152.out) | exact HB.out)))); have n1_ := Aside0.mk (blk_below (g := gb152) (o := .cells #[.int .i64 0, .int .i64 0, .int .i64 0, .slice none 0 0] 29 (0, 0)) (stK BK152.out) hb); have n2_ := Aside0.mk (below_step (by repeat (first | (with_reducible first | exact HB.out | apply below_alloc | apply pw_below_drewN | apply below_drew1 | refine below_set ?_ GE152.out) | exact HB.out)) hb); clear BK152; clear HB; have HO155 := n0_; have BK152 := n1_; have HB := n2_; clear n0_ n1_ n2_; clear hb ho3; obtain ⟨Ao4, co4, eo4⟩ := Kd.S_slice HO155.out; subst eo4) | ((with_reducible refine gate_dst (N := 5) rfl ?_); refine Kd.R_lit (Kd.int .u8) _ 5 ?hg (N := 5) ?hd (xs := ([2, 1, 2, 2, 2, 5, 2, 1, 2, 1, 2, 3, 0, 0, 0, 0] : List Int)) (inner := [.int .u8 2, .int .u8 1, .int .u8 2, .int .u8 2, .int .u8 2, .int .u8 5, .int .u8 2, .int .u8 1, .int .u8 2, .int .u8 1, .int .u8 2, .int .u8 3, .int .u8 0, .int .u8 0, .int .u8 0, .int .u8 0]) (ok := fun _ => True) (okp := fun _ => True) ?hr ?hp (fun _ hk => hk) trivial (Below.refl _ _) (Nat.le_refl _) (by simp) ?_; (case hd => rfl); (case hg => rfl); (case hr => first | (go_simp; done) | (go_simp; rfl)); (case hp => exact (Reps.one (show Kd.M (Kd.int .u8) _ _ _ 2 [.int .u8 2] from rfl) (Reps.one (show Kd.M (Kd.int .u8) _ _ _ 1 [.int .u8 1] from rfl) (Reps.one (show Kd.M (Kd.int .u8) _ _ _ 2 [.int .u8 2] from rfl) (Reps.one (show Kd.M (Kd.int .u8) _ _ _ 2 [.int .u8 2] from rfl) (Reps.one (show Kd.M (Kd.int .u8) _ _ _ 2 [.int .u8 2] from rfl) (Reps.one (show Kd.M (Kd.int .u8) _ _ _ 5 [.int .u8 5] from rfl) (Reps.one (show Kd.M (Kd.int .u8) _ _ _ 2 [.int .u8 2] from rfl) (Reps.one (show Kd.M (Kd.int .u8) _ _ _ 1 [.int .u8 1] from rfl) (Reps.one (show Kd.M (Kd.int .u8) _ _ _ 2 [.int .u8 2] from rfl) (Reps.one (show Kd.M (Kd.int .u8) _ _ _ 1 [.int .u8 1] from rfl) (Reps.one (show Kd.M (Kd.int .u8) _ _ _ 2 [.int .u8 2] from rfl) (Reps.one (show Kd.M (Kd.int .u8) _ _ _ 3 [.int .u8 3] from rfl) (Reps.one (show Kd.M (Kd.int .u8) _ _ _ 0 [.int .u8 0] from rfl) (Reps.one (show Kd.M (Kd.int .u8) _ _ _ 0 [.int .u8 0] from rfl) (Reps.one (show Kd.M (Kd.int .u8) _ _ _ 0 [.int .u8 0] from rfl) (Reps.one (show Kd.M (Kd.int .u8) _ _ _ 0 [.int .u8 0] from rfl) (Reps.none _ _)))))))))))))))))); intro v157 w5 ho6 hb hg_ hnew_; clear hg_ hnew_; (first | rw [← Ny156.out] at ho6 | (simp only [Int.reduceToNat] at ho6; rw [← Ny156.out] at ho6)); have n0_ := Aside0.mk (Kd.S_elder' (stS HO155.out) (Kd.R_base ho6) hb); have n1_ := Aside0.mk (Kd.R_lower ho6 (below_size (by repeat (first | (with_reducible first | exact HB.out | apply below_alloc | apply pw_below_drewN | apply below_drew1 | refine below_set ?_ GE152.out) | exact HB.out)))); have n2_ := Aside0.mk (blk_below (g := gb152) (o := .cells #[.int .i64 0, .int .i64 0, .int .i64 0, .slice none 0 0] 29 (0, 0)) (stK BK152.out) hb); have n3_ := Aside0.mk (below_step (by repeat (first | (with_reducible first | exact HB.out | apply below_alloc | apply pw_below_drewN | apply below_drew1 | refine below_set ?_ GE152.out) | exact HB.out)) hb); clear HO155; clear BK152; clear HB; have HO155 := n0_; have HO158 := n1_; have BK152 := n2_; have HB := n3_; clear n0_ n1_ n2_ n3_; clear hb ho6; obtain ⟨hcz7_0, hcz7_1, hcz7_2, hcz7_3⟩ := bc4 BK152.out; obtain ⟨hfz7_0, hfz7_1, hfz7_2, hfz7_3⟩ := bf4 BK152.out))
 refine bodyPost_ret (results_ct rfl _ _ gb152 29 #[.int .i64 1, .int .i64 2, .int .i64 5, .slice Ao4 y153.length co4] (0, 0) _ rfl (by (with_reducible repeat (first | refine blk_drewN ?_ _ | refine blk_drew ?_ | refine blk_alloc ?_ _)); refine blk_put (cs := #[.int .i64 1, .int .i64 2, .int .i64 5, .slice none 0 0]) ?_ 3 _ rfl; (with_reducible repeat (first | refine blk_drewN ?_ _ | refine blk_drew ?_ | refine blk_alloc ?_ _)); refine blk_put (cs := #[.int .i64 1, .int .i64 2, .int .i64 0, .slice none 0 0]) ?_ 2 _ rfl; (with_reducible repeat (first | refine blk_drewN ?_ _ | refine blk_drew ?_ | refine blk_alloc ?_ _)); refine blk_put (cs := #[.int .i64 1, .int .i64 0, .int .i64 0, .slice none 0 0]) ?_ 1 _ rfl; (with_reducible repeat (first | refine blk_drewN ?_ _ | refine blk_drew ?_ | refine blk_alloc ?_ _)); refine blk_put (cs := #[.int .i64 0, .int .i64 0, .int .i64 0, .slice none 0 0]) ?_ 0 _ rfl; (with_reducible repeat (first | refine blk_drewN ?_ _ | refine blk_drew ?_ | refine blk_alloc ?_ _)); exact BK152.out) Tryz.underlying29 rfl (by kernel_rfl)) rfl ?_
 exact ⟨_, _, by first | rfl | (simp [errW_none, errW_some] <;> rfl) | (simp [*, errW_none, errW_some] <;> rfl), by (with_reducible repeat (first|apply Kd.S_alloc | apply Kd.S_drewN | apply Kd.S_drew)); exact Kd.S_mono (Kd.S_far (p := ⟨gb152, 3, none⟩) (Kd.S_far (p := ⟨gb152, 2, none⟩) (Kd.S_far (p := ⟨gb152, 1, none⟩) (Kd.S_far (p := ⟨gb152, 0, none⟩) (Kd.S_types HO155.out BK152.out (by decide)) (fun _ hk => hk.2) (.int .i64 1)) (fun _ hk => hk.2) (.int .i64 2)) (fun _ hk => hk.2) (.int .i64 5)) (fun _ hk => hk.2) (.slice Ao4 y153.length co4)) (fun _ hk => hk.1.2), by (with_reducible repeat (first|apply Kd.R_alloc | apply Kd.R_drewN | apply Kd.R_drew)); exact Kd.R_mono (Kd.R_far (p := ⟨gb152, 3, none⟩) (Kd.R_far (p := ⟨gb152, 2, none⟩) (Kd.R_far (p := ⟨gb152, 1, none⟩) (Kd.R_far (p := ⟨gb152, 0, none⟩) (Kd.R_types HO158.out BK152.out (by decide)) (fun _ hk => hk.2) (.int .i64 1)) (fun _ hk => hk.2) (.int .i64 2)) (fun _ hk => hk.2) (.int .i64 5)) (fun _ hk => hk.2) (.slice Ao4 y153.length co4)) (fun _ hk => trivial), by repeat (first | (with_reducible first | exact HB.out | apply below_alloc | apply pw_below_drewN | apply below_drew1 | refine below_set ?_ GE152.out) | exact HB.out)⟩
end Go.Proofs.YtgiefblcckikeaaGreat.G
end

section
/- law04's begun returns true (by hand: the printed walk is long). -/
attribute [local irreducible] Go.wpStill
namespace Go.Proofs.YtgiefblcckikeaaGreat.M
open Go.RowKit Go.Proofs.YtgiefblcckikeaaGreatW.PrintWords Go.Proofs.YtgiefblcckikeaaGreatW.PrintLast Go.Proofs.YtgiefblcckikeaaGreatW.PrintMore Go.Proofs.YtgiefblcckikeaaGreat.G
abbrev bgT : List TxD := [(⟨1, 3, [], [], [], []⟩ : TxD)]
abbrev bgB : List Int := [2, 1, 2, 2, 2, 5, 2, 1, 2, 1, 2, 3, 0, 0, 0, 0]
theorem bg_entF : entF 1 2 5 bgT = (bgB, 0) := by decide +kernel
theorem bg_take : takeEn bgB = ((1, 2, 5, bgT), 0) := by kernel_rfl
theorem bg_same : ∃ k, G.trivetref04_SameEntry.f k 1 2 5 bgT 1 2 5 bgT = some true := by
 refine ⟨20, ?_⟩
 rw [sameEn_r 20 1 2 5 bgT 1 2 5 bgT (fun t ht => by rw [List.mem_singleton.1 ht]; decide) (by decide) (by decide) (fun t ht => by rw [List.mem_singleton.1 ht]; exact ⟨by decide, by decide, by decide, by decide⟩)]
 have : eqEn 1 2 5 bgT 1 2 5 bgT = true := by kernel_rfl
 rw [this]
set_option maxHeartbeats 1000000 in
theorem begun_is (w : World) : Calls Tryz.prog 9 #[] w fun e w' => e = .returned (.bool true) ∧ Below w.heap.size w w' := by
 go_enter Tryz.func9, Tryz.ntmps9
 go_wp2_with fail
 refine (G.trivetlaw04_simple.calls 1 2 5 bgT bgB w rfl).mono ?_
 rintro e w1 ⟨v3, v4, rfl, hs, hr, hb⟩
 obtain ⟨A, c, rfl, hc, hC⟩ := Kd.S_reads hs
 obtain ⟨B, d, rfl⟩ := Kd.R_slice hr
 obtain ⟨-, hd, hD⟩ := Kd.R_reads' hr
 obtain ⟨l, hl⟩ : ∃ l, bgT = l := ⟨_, rfl⟩
 obtain ⟨bs, hbs⟩ : ∃ bs, bgB = bs := ⟨_, rfl⟩
 have hEF := bg_entF; have hTK := bg_take; obtain ⟨K, hSM⟩ := bg_same
 have ho : okE 1 2 5 bgT = true := by kernel_rfl
 have hok : okB bgB = true := by decide
 have hbl : bgB.length < 140737488355328 := by decide
 rw [hl, hbs] at hEF hTK
 rw [hl] at hSM ho hc hC
 rw [hbs] at hok hbl hd hD
 rw [show (bgT).length = l.length by rw [hl], show (bgB).length = bs.length by rw [hbs]]
 have HC := Lib.hid hC; have HD := Lib.hid hD; have HB := Lib.hid hb; have HCC := Lib.hid (And.intro hc hd)
 have HEF := Lib.hid hEF; have HTK := Lib.hid hTK; have HSM := Lib.hid hSM; have HO := Lib.hid (And.intro ho (And.intro hok hbl))
 clear hs hr hb hC hD hc hd hl hbs hEF hTK hSM ho hok hbl
 go_wp2_with fail
 have hbx := heap_alloc_new w1 (.cells #[.int .i64 1, .int .i64 2, .int .i64 5, .slice A l.length c] 29)
 have hay := (Below.refl _ w1).alloc (Nat.le_refl _) (.cells #[.int .i64 1, .int .i64 2, .int .i64 5, .slice A l.length c] 29)
 have hz : (w1.alloc (.cells #[.int .i64 1, .int .i64 2, .int .i64 5, .slice A l.length c] 29)).heap.size = w1.heap.size + 1 := by simp
 obtain ⟨w2, hw2⟩ : ∃ w2, w1.alloc (.cells #[.int .i64 1, .int .i64 2, .int .i64 5, .slice A l.length c] 29) = w2 := ⟨_, rfl⟩
 rw [hw2] at hbx hay hz ⊢
 obtain ⟨g, hg⟩ : ∃ g, w1.heap.size = g := ⟨_, rfl⟩
 have HC2 := Lib.hid (Kd.C_below HC.out hay); have HD2 := Lib.hid (Kd.C_below HD.out hay); have HB2 := Lib.hid (HB.out.trans (hay.mono HB.out.size))
 rw [hg] at hbx hz ⊢
 have HX2 := Lib.hid (And.intro hbx (show g < w2.heap.size by omega))
 clear hw2 hbx hay hz hg HC HD HB
 have a0 : w2.cell? ⟨g, 0, none⟩ = some (.int .i64 1) := by simp [World.cell?, HX2.out.1]
 have a1 : w2.cell? ⟨g, 1, none⟩ = some (.int .i64 2) := by simp [World.cell?, HX2.out.1]
 have a2 : w2.cell? ⟨g, 2, none⟩ = some (.int .i64 5) := by simp [World.cell?, HX2.out.1]
 have a3 : w2.cell? ⟨g, 3, none⟩ = some (.slice A l.length c) := by simp [World.cell?, HX2.out.1]
 go_wp2_with fail
 refine (entry_is 1 2 5 A c l w2 HC2.out HO.out.1).mono ?_
 rw [HEF.out]
 rintro e w3 ⟨v, rfl, hv, hb⟩
 obtain ⟨V, cv, rfl⟩ := Kd.R_slice hv
 obtain ⟨-, hvl, hV⟩ := Kd.R_reads' hv
 have HV := Lib.hid (show Kd.C (Kd.int .u8) w3 V bs.length bs from hV); have HVL := Lib.hid (show bs.length ≤ cv from hvl)
 have HC3 := Lib.hid (Kd.C_below HC2.out hb); have HD3 := Lib.hid (Kd.C_below HD2.out hb); have HB3 := Lib.hid (HB2.out.trans (hb.mono HB2.out.size))
 have HX3 := Lib.hid (And.intro ((hb.block g HX2.out.2).trans HX2.out.1) (Nat.lt_of_lt_of_le HX2.out.2 hb.size))
 clear hv hvl hV hb a0 a1 a2 a3 HC2 HD2 HB2 HX2
 go_wp2_with fail
 refine (takeEn_is B d bs w3 HD3.out HCC.out.2 HO.out.2.1 HO.out.2.2).mono ?_
 rw [HTK.out]
 rintro e w4 ⟨v, rfl, hv, hb⟩
 obtain ⟨Y, cy, rfl, hyc, hY⟩ := Kd.S_reads hv
 have HY := Lib.hid (show Kd.C G.k26 w4 Y l.length l from hY); have HYC := Lib.hid (show l.length ≤ cy from hyc)
 have HC4 := Lib.hid (Kd.C_below HC3.out hb); have HD4 := Lib.hid (Kd.C_below HD3.out hb); have HV4 := Lib.hid (Kd.C_below HV.out hb); have HB4 := Lib.hid (HB3.out.trans (hb.mono HB3.out.size))
 have HX4 := Lib.hid (And.intro ((hb.block g HX3.out.2).trans HX3.out.1) (Nat.lt_of_lt_of_le HX3.out.2 hb.size))
 clear hv hyc hY hb HC3 HD3 HB3 HX3 HV
 go_wp2_with fail
 have hbx := heap_alloc_new w4 (.cells #[.int .i64 1, .int .i64 2, .int .i64 5, .slice Y l.length cy] 29)
 have hay := (Below.refl _ w4).alloc (Nat.le_refl _) (.cells #[.int .i64 1, .int .i64 2, .int .i64 5, .slice Y l.length cy] 29)
 obtain ⟨w5, hw5⟩ : ∃ w5, w4.alloc (.cells #[.int .i64 1, .int .i64 2, .int .i64 5, .slice Y l.length cy] 29) = w5 := ⟨_, rfl⟩
 rw [hw5] at hbx hay ⊢
 obtain ⟨g2, hg2⟩ : ∃ g2, w4.heap.size = g2 := ⟨_, rfl⟩
 have HC5 := Lib.hid (Kd.C_below HC4.out hay); have HD5 := Lib.hid (Kd.C_below HD4.out hay); have HV5 := Lib.hid (Kd.C_below HV4.out hay); have HY5 := Lib.hid (Kd.C_below HY.out hay); have HB5 := Lib.hid (HB4.out.trans (hay.mono HB4.out.size))
 have HX5 := Lib.hid ((hay.block g HX4.out.2).trans HX4.out.1)
 rw [hg2] at hbx ⊢
 have HG5 := Lib.hid hbx
 clear hw5 hbx hay hg2 HC4 HD4 HB4 HX4 HV4 HY
 have a0 : w5.cell? ⟨g, 0, none⟩ = some (.int .i64 1) := by simp [World.cell?, HX5.out]
 have a1 : w5.cell? ⟨g, 1, none⟩ = some (.int .i64 2) := by simp [World.cell?, HX5.out]
 have a2 : w5.cell? ⟨g, 2, none⟩ = some (.int .i64 5) := by simp [World.cell?, HX5.out]
 have a3 : w5.cell? ⟨g, 3, none⟩ = some (.slice A l.length c) := by simp [World.cell?, HX5.out]
 have b0 : w5.cell? ⟨g2, 0, none⟩ = some (.int .i64 1) := by simp [World.cell?, HG5.out]
 have b1 : w5.cell? ⟨g2, 1, none⟩ = some (.int .i64 2) := by simp [World.cell?, HG5.out]
 have b2 : w5.cell? ⟨g2, 2, none⟩ = some (.int .i64 5) := by simp [World.cell?, HG5.out]
 have b3 : w5.cell? ⟨g2, 3, none⟩ = some (.slice Y l.length cy) := by simp [World.cell?, HG5.out]
 go_wp2_with fail
 refine (G.bytes_Equal.calls V cv bs B d bs true w5 HV5.out HVL.out HD5.out HCC.out.2 (by unfold G.bytes_Equal.f; simp)).mono ?_
 rintro e w6 ⟨rfl, ⟨n, rfl⟩⟩
 go_wp2_with fail
 refine (G.trivetref04_SameEntry.calls K 1 2 5 A c l 1 2 5 Y cy l true _ (Kd.C_drewN HC5.out n) HCC.out.1 (Kd.C_drewN HY5.out n) HYC.out HSM.out).mono ?_
 rintro e w7 ⟨rfl, hb⟩
 have HB7 := Lib.hid (below_then (pw_below_drewN HB5.out n) hb)
 clear hb
 go_wp2_with fail
 go_ret
 exact ⟨rfl, HB7.out⟩
end Go.Proofs.YtgiefblcckikeaaGreat.M
namespace Go.Proofs.YtgiefblcckikeaaGreat.G
open Go.RowKit Go.Proofs.YtgiefblcckikeaaGreatW.PrintWords Go.Proofs.YtgiefblcckikeaaGreat.M
def trivetlaw04_begun.f : Option Bool := some true
theorem trivetlaw04_begun.calls (r : Bool) (w : World) (h : trivetlaw04_begun.f = some r) :
  Calls Tryz.prog 9 #[] w fun e w' => e = .returned (.bool r) ∧ Below w.heap.size w w' := by
 obtain rfl := Option.some.inj h
 exact begun_is w
end Go.Proofs.YtgiefblcckikeaaGreat.G
end

section
/- Each is the same as itself. -/
namespace Go.Proofs.YtgiefblcckikeaaGreat.M
open Go.RowKit Go.Proofs.YtgiefblcckikeaaGreatW.PrintWords Go.Proofs.YtgiefblcckikeaaGreatW.PrintLast Go.Proofs.YtgiefblcckikeaaGreatW.PrintMore Go.Proofs.YtgiefblcckikeaaGreat.G
theorem eqTs_refl : ∀ l : List TxD, eqTs l l = true
 | [] => rfl
 | t :: l => by unfold eqTs; rw [show eqTx t t = true by unfold eqTx; simp [eqS_refl], eqTs_refl l]; rfl
theorem eqEn_refl (k f n : Int) (l : List TxD) : eqEn k f n l k f n l = true := by unfold eqEn; simp [eqTs_refl]
theorem eqTrs_refl : ∀ l : List TrD, eqTrs l l = true
 | [] => rfl
 | t :: l => by unfold eqTrs; rw [show eqTr t t = true by unfold eqTr; simp [eqEn_refl], eqTrs_refl l]; rfl
theorem eqMs_refl (m : MsgD) : eqMs m m = true := by unfold eqMs eqPt; simp [eqTrs_refl, eqEn_refl, eqS_refl]
end Go.Proofs.YtgiefblcckikeaaGreat.M
end

section
/- RecordReads returns true (printed by genunm04.py). -/
attribute [local irreducible] Go.wpStill
namespace Go.Proofs.YtgiefblcckikeaaGreat.M
open Go.RowKit Go.Proofs.YtgiefblcckikeaaGreatW.PrintWords Go.Proofs.YtgiefblcckikeaaGreatW.PrintLast Go.Proofs.YtgiefblcckikeaaGreatW.PrintMore Go.Proofs.YtgiefblcckikeaaGreat.G
set_option maxHeartbeats 4000000 in
theorem reads_walk (w : World) (A : Option Addr) (c : Nat) (l : List Int) (hr : Kd.C (Kd.int .u8) w A l.length l) (hc : l.length ≤ c) (hb : okB l = true) (hl : l.length < 140737488355328) :
  Calls Tryz.prog 5 #[.slice A l.length c] w fun e w' => e = .returned (.bool true) ∧ Below w.heap.size w w' := by
 have HB0 := Lib.hid (Below.refl w.heap.size w)
 have C0_0 := Lib.hid hr
 have HC := Lib.hid hc; have HOB := Lib.hid hb; have HL := Lib.hid hl
 obtain ⟨⟨k, f, n, t⟩, hy⟩ : ∃ y, (takeEn l).1 = y := ⟨_, rfl⟩
 obtain ⟨e1, he1⟩ : ∃ e1, (takeEn l).2 = e1 := ⟨_, rfl⟩
 obtain ⟨m, hm⟩ : ∃ m, (unm l).1 = m := ⟨_, rfl⟩
 obtain ⟨e2, he2⟩ : ∃ e2, (unm l).2 = e2 := ⟨_, rfl⟩
 have HE := Lib.hid (And.intro hy he1); have HM := Lib.hid (And.intro hm he2)
 clear hr hc hb hl hy he1 hm he2
 go_enter Tryz.func5, Tryz.ntmps5
 go_wp2_with fail
 have h4 := takeEn_is A c l w C0_0.out HC.out HOB.out HL.out
 rw [HE.out.1, HE.out.2] at h4
 refine h4.mono ?_
 rintro e u1 ⟨v, rfl, hv, hb⟩
 have hv : Kd.R G.k26 26 u1 w.heap.size (fun _ => True) v t := Kd.S_R hv
 obtain ⟨E1, ce1, rfl⟩ := Kd.R_slice hv
 go_upto_region 2 with fail
 have ha := (Below.refl _ u1).alloc (Nat.le_refl _) (.cells #[.int .i64 k, .int .i64 f, .int .i64 n, .slice E1 t.length ce1] 29)
 have hx := heap_alloc_new u1 (.cells #[.int .i64 k, .int .i64 f, .int .i64 n, .slice E1 t.length ce1] 29)
 obtain ⟨w1, hw⟩ : ∃ W, u1.alloc (.cells #[.int .i64 k, .int .i64 f, .int .i64 n, .slice E1 t.length ce1] 29) = W := ⟨_, rfl⟩
 rw [hw] at ha hx ⊢
 obtain ⟨g1, hg⟩ : ∃ g, u1.heap.size = g := ⟨_, rfl⟩
 have S1 := Lib.hid (show Below w.heap.size w w1 from hb.trans (ha.mono hb.size))
 have E1_1 := Lib.hid (show Kd.C G.k26 w1 E1 t.length t from Kd.C_below (Kd.R_reads' hv).2.2 ha)
 have N1 := Lib.hid (Kd.R_reads' hv).2.1
 rw [hg] at hx ⊢
 have B1_1 := Lib.hid hx
 clear h4 hb ha hx hw hg hv
 have C0_1 := Lib.hid (Kd.C_below C0_0.out S1.out)
 clear C0_0
 have HB1 := Lib.hid (HB0.out.trans (S1.out.mono HB0.out.size))
 clear HB0 S1
 go_wp2_with fail
 have h4 := refTakeEn_is A c l w1 C0_1.out HC.out HOB.out HL.out
 rw [HE.out.1, HE.out.2] at h4
 refine h4.mono ?_
 rintro e u2 ⟨v, rfl, hv, hb⟩
 have hv : Kd.R G.k26 26 u2 w1.heap.size (fun _ => True) v t := hv
 obtain ⟨E2, ce2, rfl⟩ := Kd.R_slice hv
 go_upto_region 3 with fail
 have ha := (Below.refl _ u2).alloc (Nat.le_refl _) (.cells #[.int .i64 k, .int .i64 f, .int .i64 n, .slice E2 t.length ce2] 29)
 have hx := heap_alloc_new u2 (.cells #[.int .i64 k, .int .i64 f, .int .i64 n, .slice E2 t.length ce2] 29)
 obtain ⟨w2, hw⟩ : ∃ W, u2.alloc (.cells #[.int .i64 k, .int .i64 f, .int .i64 n, .slice E2 t.length ce2] 29) = W := ⟨_, rfl⟩
 rw [hw] at ha hx ⊢
 obtain ⟨g2, hg⟩ : ∃ g, u2.heap.size = g := ⟨_, rfl⟩
 have S2 := Lib.hid (show Below w1.heap.size w1 w2 from hb.trans (ha.mono hb.size))
 have E2_2 := Lib.hid (show Kd.C G.k26 w2 E2 t.length t from Kd.C_below (Kd.R_reads' hv).2.2 ha)
 have N2 := Lib.hid (Kd.R_reads' hv).2.1
 rw [hg] at hx ⊢
 have B2_2 := Lib.hid hx
 clear h4 hb ha hx hw hg hv
 have C0_2 := Lib.hid (Kd.C_below C0_1.out S2.out)
 have B1_2 := Lib.hid ((S2.out.block _ (Array.getElem?_eq_some_iff.1 B1_1.out).1).trans B1_1.out)
 have E1_2 := Lib.hid (Kd.C_below E1_1.out S2.out)
 clear C0_1 B1_1 E1_1
 have HB2 := Lib.hid (HB1.out.trans (S2.out.mono HB1.out.size))
 clear HB1 S2
 go_wp2_with fail
 have h4 := unm_is A c l w2 C0_2.out HC.out HOB.out HL.out
 rw [HM.out.1, HM.out.2] at h4
 refine h4.mono ?_
 rintro e u3 ⟨v8, v12, v16, rfl, r8, r12, r16, hb⟩
 obtain ⟨A8, c8, rfl⟩ := Kd.R_slice r8
 obtain ⟨A12, c12, rfl⟩ := Kd.R_slice r12
 obtain ⟨A16, c16, rfl⟩ := Kd.R_slice r16
 go_upto_region 4 with fail
 have ha := (Below.refl _ u3).alloc (Nat.le_refl _) (.cells #[.int .i64 m.f0, .int .i64 m.f1, .int .i64 m.f2, .int .i64 m.f3, .int .i64 m.f4, .int .i64 m.f5, .int .i64 m.f6, .bool m.f7, .slice A8 m.f8.length c8, .int .i64 m.f9.f0, .int .i64 m.f9.f1, .int .i64 m.f9.f2, .slice A12 m.f9.f3.length c12, .int .i64 m.f10.f0, .int .i64 m.f10.f1, .int .i64 m.f10.f2, .slice A16 m.f10.f3.length c16] 34)
 have hx := heap_alloc_new u3 (.cells #[.int .i64 m.f0, .int .i64 m.f1, .int .i64 m.f2, .int .i64 m.f3, .int .i64 m.f4, .int .i64 m.f5, .int .i64 m.f6, .bool m.f7, .slice A8 m.f8.length c8, .int .i64 m.f9.f0, .int .i64 m.f9.f1, .int .i64 m.f9.f2, .slice A12 m.f9.f3.length c12, .int .i64 m.f10.f0, .int .i64 m.f10.f1, .int .i64 m.f10.f2, .slice A16 m.f10.f3.length c16] 34)
 obtain ⟨w3, hw⟩ : ∃ W, u3.alloc (.cells #[.int .i64 m.f0, .int .i64 m.f1, .int .i64 m.f2, .int .i64 m.f3, .int .i64 m.f4, .int .i64 m.f5, .int .i64 m.f6, .bool m.f7, .slice A8 m.f8.length c8, .int .i64 m.f9.f0, .int .i64 m.f9.f1, .int .i64 m.f9.f2, .slice A12 m.f9.f3.length c12, .int .i64 m.f10.f0, .int .i64 m.f10.f1, .int .i64 m.f10.f2, .slice A16 m.f10.f3.length c16] 34) = W := ⟨_, rfl⟩
 rw [hw] at ha hx ⊢
 obtain ⟨g3, hg⟩ : ∃ g, u3.heap.size = g := ⟨_, rfl⟩
 have S3 := Lib.hid (show Below w2.heap.size w2 w3 from hb.trans (ha.mono hb.size))
 have M3_3 := Lib.hid (show MsgC w3 m A8 c8 A12 c12 A16 c16 from MsgC.below ⟨(Kd.R_reads' r8).2.1, (Kd.R_reads' r8).2.2, (Kd.R_reads' r12).2.1, (Kd.R_reads' r12).2.2, (Kd.R_reads' r16).2.1, (Kd.R_reads' r16).2.2⟩ ha)
 rw [hg] at hx ⊢
 have B3_3 := Lib.hid hx
 clear h4 hb ha hx hw hg r8 r12 r16
 have C0_3 := Lib.hid (Kd.C_below C0_2.out S3.out)
 have B1_3 := Lib.hid ((S3.out.block _ (Array.getElem?_eq_some_iff.1 B1_2.out).1).trans B1_2.out)
 have E1_3 := Lib.hid (Kd.C_below E1_2.out S3.out)
 have B2_3 := Lib.hid ((S3.out.block _ (Array.getElem?_eq_some_iff.1 B2_2.out).1).trans B2_2.out)
 have E2_3 := Lib.hid (Kd.C_below E2_2.out S3.out)
 clear C0_2 B1_2 E1_2 B2_2 E2_2
 have HB3 := Lib.hid (HB2.out.trans (S3.out.mono HB2.out.size))
 clear HB2 S3
 go_wp2_with fail
 have h4 := refUnm_is A c l w3 C0_3.out HC.out HOB.out HL.out
 rw [HM.out.1, HM.out.2] at h4
 refine h4.mono ?_
 rintro e u4 ⟨v8, v12, v16, rfl, r8, r12, r16, hb⟩
 obtain ⟨B8, d8, rfl⟩ := Kd.R_slice r8
 obtain ⟨B12, d12, rfl⟩ := Kd.R_slice r12
 obtain ⟨B16, d16, rfl⟩ := Kd.R_slice r16
 go_upto_region 5 with fail
 have ha := (Below.refl _ u4).alloc (Nat.le_refl _) (.cells #[.int .i64 m.f0, .int .i64 m.f1, .int .i64 m.f2, .int .i64 m.f3, .int .i64 m.f4, .int .i64 m.f5, .int .i64 m.f6, .bool m.f7, .slice B8 m.f8.length d8, .int .i64 m.f9.f0, .int .i64 m.f9.f1, .int .i64 m.f9.f2, .slice B12 m.f9.f3.length d12, .int .i64 m.f10.f0, .int .i64 m.f10.f1, .int .i64 m.f10.f2, .slice B16 m.f10.f3.length d16] 34)
 have hx := heap_alloc_new u4 (.cells #[.int .i64 m.f0, .int .i64 m.f1, .int .i64 m.f2, .int .i64 m.f3, .int .i64 m.f4, .int .i64 m.f5, .int .i64 m.f6, .bool m.f7, .slice B8 m.f8.length d8, .int .i64 m.f9.f0, .int .i64 m.f9.f1, .int .i64 m.f9.f2, .slice B12 m.f9.f3.length d12, .int .i64 m.f10.f0, .int .i64 m.f10.f1, .int .i64 m.f10.f2, .slice B16 m.f10.f3.length d16] 34)
 obtain ⟨w4, hw⟩ : ∃ W, u4.alloc (.cells #[.int .i64 m.f0, .int .i64 m.f1, .int .i64 m.f2, .int .i64 m.f3, .int .i64 m.f4, .int .i64 m.f5, .int .i64 m.f6, .bool m.f7, .slice B8 m.f8.length d8, .int .i64 m.f9.f0, .int .i64 m.f9.f1, .int .i64 m.f9.f2, .slice B12 m.f9.f3.length d12, .int .i64 m.f10.f0, .int .i64 m.f10.f1, .int .i64 m.f10.f2, .slice B16 m.f10.f3.length d16] 34) = W := ⟨_, rfl⟩
 rw [hw] at ha hx ⊢
 obtain ⟨g4, hg⟩ : ∃ g, u4.heap.size = g := ⟨_, rfl⟩
 have S4 := Lib.hid (show Below w3.heap.size w3 w4 from hb.trans (ha.mono hb.size))
 have M4_4 := Lib.hid (show MsgC w4 m B8 d8 B12 d12 B16 d16 from MsgC.below ⟨(Kd.R_reads' r8).2.1, (Kd.R_reads' r8).2.2, (Kd.R_reads' r12).2.1, (Kd.R_reads' r12).2.2, (Kd.R_reads' r16).2.1, (Kd.R_reads' r16).2.2⟩ ha)
 rw [hg] at hx ⊢
 have B4_4 := Lib.hid hx
 clear h4 hb ha hx hw hg r8 r12 r16
 have C0_4 := Lib.hid (Kd.C_below C0_3.out S4.out)
 have B1_4 := Lib.hid ((S4.out.block _ (Array.getElem?_eq_some_iff.1 B1_3.out).1).trans B1_3.out)
 have E1_4 := Lib.hid (Kd.C_below E1_3.out S4.out)
 have B2_4 := Lib.hid ((S4.out.block _ (Array.getElem?_eq_some_iff.1 B2_3.out).1).trans B2_3.out)
 have E2_4 := Lib.hid (Kd.C_below E2_3.out S4.out)
 have B3_4 := Lib.hid ((S4.out.block _ (Array.getElem?_eq_some_iff.1 B3_3.out).1).trans B3_3.out)
 have M3_4 := Lib.hid (M3_3.out.below S4.out)
 clear C0_3 B1_3 E1_3 B2_3 E2_3 B3_3 M3_3
 have HB4 := Lib.hid (HB3.out.trans (S4.out.mono HB3.out.size))
 clear HB3 S4
 have q1 : (e1 == e1) = true := by simp
 have q2 : (e2 == e2) = true := by simp
 refine wp_region_list ?_
 refine wpList_cut 17 ?_
 simp only [List.take_succ_cons, List.take_zero, List.drop_succ_cons, List.drop_zero]
 go_wp2_with fail
 refine (begun_is w4).mono ?_
 rintro e w5 ⟨rfl, hb⟩
 have S5 := Lib.hid hb
 clear hb
 have C0_5 := Lib.hid (Kd.C_below C0_4.out S5.out)
 have B1_5 := Lib.hid ((S5.out.block _ (Array.getElem?_eq_some_iff.1 B1_4.out).1).trans B1_4.out)
 have E1_5 := Lib.hid (Kd.C_below E1_4.out S5.out)
 have B2_5 := Lib.hid ((S5.out.block _ (Array.getElem?_eq_some_iff.1 B2_4.out).1).trans B2_4.out)
 have E2_5 := Lib.hid (Kd.C_below E2_4.out S5.out)
 have B3_5 := Lib.hid ((S5.out.block _ (Array.getElem?_eq_some_iff.1 B3_4.out).1).trans B3_4.out)
 have M3_5 := Lib.hid (M3_4.out.below S5.out)
 have B4_5 := Lib.hid ((S5.out.block _ (Array.getElem?_eq_some_iff.1 B4_4.out).1).trans B4_4.out)
 have M4_5 := Lib.hid (M4_4.out.below S5.out)
 clear C0_4 B1_4 E1_4 B2_4 E2_4 B3_4 M3_4 B4_4 M4_4
 have HB5 := Lib.hid (HB4.out.trans (S5.out.mono HB4.out.size))
 clear HB4 S5
 have x10 : w5.cell? ⟨g1, 0, none⟩ = some (.int .i64 k) := (blk_cell B1_5.out 0).trans rfl
 have x11 : w5.cell? ⟨g1, 1, none⟩ = some (.int .i64 f) := (blk_cell B1_5.out 1).trans rfl
 have x12 : w5.cell? ⟨g1, 2, none⟩ = some (.int .i64 n) := (blk_cell B1_5.out 2).trans rfl
 have x13 : w5.cell? ⟨g1, 3, none⟩ = some (.slice E1 t.length ce1) := (blk_cell B1_5.out 3).trans rfl
 have x20 : w5.cell? ⟨g2, 0, none⟩ = some (.int .i64 k) := (blk_cell B2_5.out 0).trans rfl
 have x21 : w5.cell? ⟨g2, 1, none⟩ = some (.int .i64 f) := (blk_cell B2_5.out 1).trans rfl
 have x22 : w5.cell? ⟨g2, 2, none⟩ = some (.int .i64 n) := (blk_cell B2_5.out 2).trans rfl
 have x23 : w5.cell? ⟨g2, 3, none⟩ = some (.slice E2 t.length ce2) := (blk_cell B2_5.out 3).trans rfl
 go_wp2_with fail
 have h4 := refSameEn_is k f n E1 ce1 t k f n E2 ce2 t w5 E1_5.out N1.out E2_5.out N2.out
 rw [eqEn_refl] at h4
 refine h4.mono ?_
 rintro e w6 ⟨rfl, hb⟩
 clear h4 x10 x11 x12 x13 x20 x21 x22 x23
 have S6 := Lib.hid hb
 clear hb
 have C0_6 := Lib.hid (Kd.C_below C0_5.out S6.out)
 have B1_6 := Lib.hid ((S6.out.block _ (Array.getElem?_eq_some_iff.1 B1_5.out).1).trans B1_5.out)
 have E1_6 := Lib.hid (Kd.C_below E1_5.out S6.out)
 have B2_6 := Lib.hid ((S6.out.block _ (Array.getElem?_eq_some_iff.1 B2_5.out).1).trans B2_5.out)
 have E2_6 := Lib.hid (Kd.C_below E2_5.out S6.out)
 have B3_6 := Lib.hid ((S6.out.block _ (Array.getElem?_eq_some_iff.1 B3_5.out).1).trans B3_5.out)
 have M3_6 := Lib.hid (M3_5.out.below S6.out)
 have B4_6 := Lib.hid ((S6.out.block _ (Array.getElem?_eq_some_iff.1 B4_5.out).1).trans B4_5.out)
 have M4_6 := Lib.hid (M4_5.out.below S6.out)
 clear C0_5 B1_5 E1_5 B2_5 E2_5 B3_5 M3_5 B4_5 M4_5
 have HB6 := Lib.hid (HB5.out.trans (S6.out.mono HB5.out.size))
 clear HB5 S6
 go_wp2_with fail
 refine Halt.mk ?_
 refine gate_guard (by rfl) ?_
 dsimp only
 refine wpList_load_row rfl 34 (.tmp 7) rfl g3 rfl 34 #[.int .i64 m.f0, .int .i64 m.f1, .int .i64 m.f2, .int .i64 m.f3, .int .i64 m.f4, .int .i64 m.f5, .int .i64 m.f6, .bool m.f7, .slice A8 m.f8.length c8, .int .i64 m.f9.f0, .int .i64 m.f9.f1, .int .i64 m.f9.f2, .slice A12 m.f9.f3.length c12, .int .i64 m.f10.f0, .int .i64 m.f10.f1, .int .i64 m.f10.f2, .slice A16 m.f10.f3.length c16] (0, 0) _ B3_6.out Tryz.underlying34 rfl (by kernel_rfl) ?_
 refine gate_guard (by rfl) ?_
 dsimp only
 refine wpList_load_row rfl 34 (.tmp 9) rfl g4 rfl 34 #[.int .i64 m.f0, .int .i64 m.f1, .int .i64 m.f2, .int .i64 m.f3, .int .i64 m.f4, .int .i64 m.f5, .int .i64 m.f6, .bool m.f7, .slice B8 m.f8.length d8, .int .i64 m.f9.f0, .int .i64 m.f9.f1, .int .i64 m.f9.f2, .slice B12 m.f9.f3.length d12, .int .i64 m.f10.f0, .int .i64 m.f10.f1, .int .i64 m.f10.f2, .slice B16 m.f10.f3.length d16] (0, 0) _ B4_6.out Tryz.underlying34 rfl (by kernel_rfl) ?_
 go_wp2_with fail
 have h4 := refSameMs_is m m M3_6.out M4_6.out
 rw [eqMs_refl] at h4
 refine h4.mono ?_
 rintro e w7 ⟨rfl, hb⟩
 have HB7 := Lib.hid (HB6.out.trans (hb.mono HB6.out.size))
 clear h4 hb
 go_wp2_with fail
 go_ret
 exact ⟨rfl, HB7.out⟩
end Go.Proofs.YtgiefblcckikeaaGreat.M
end
