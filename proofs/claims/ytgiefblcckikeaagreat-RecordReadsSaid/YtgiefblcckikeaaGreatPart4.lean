/- RecordReadsSaid: contracts of the functions that the law goes through, put together in build order (part 5 of 7). -/
import Derived.Test.YtgiefblcckikeaaGreatPart3
import Derived.Deep.RegionHeld3
import Derived.Laws.Tables
set_option linter.unusedVariables false
set_option linter.unusedSimpArgs false
section
/- Which messages may be: record.msg (printed by genmsg04.py). -/
set_option maxRecDepth 100000
attribute [local irreducible] Go.wpStill
namespace Go.Proofs.YtgiefblcckikeaaGreat.M
open Go.RowKit Go.Proofs.YtgiefblcckikeaaGreatW.PrintWords Go.Proofs.YtgiefblcckikeaaGreatW.PrintLast Go.Proofs.YtgiefblcckikeaaGreatW.PrintMore Go.Proofs.YtgiefblcckikeaaGreat.G
def mayMs (m : MsgD) : Bool := inB 0 4 [m.f1] && (inB 0 4 [m.f2] && (inB 0 1099511627776 [m.f3, m.f4, m.f5, m.f6] && (isKind m.f0 && (eqMs (bareM m) m && (decide ((m.f8.length : Int) ≤ 4096) && (m.f8.all mayTr && ((!(m.f0 == 5) || mayPt m.f10) && (!(m.f0 == 6) || mayE m.f9.f0 m.f9.f1 m.f9.f2 m.f9.f3))))))))
set_option maxHeartbeats 8000000 in
theorem msg_is {w : World} (m : MsgD) {A8 A12 A16 : Option Addr} {c8 c12 c16 : Nat} (hm : MsgC w m A8 c8 A12 c12 A16 c16) (hp : isI64 m.f10.f2) :
  Calls Tryz.prog 45 #[.agg #[.int .i64 m.f0, .int .i64 m.f1, .int .i64 m.f2, .int .i64 m.f3, .int .i64 m.f4, .int .i64 m.f5, .int .i64 m.f6, .bool m.f7, .slice A8 m.f8.length c8, .int .i64 m.f9.f0, .int .i64 m.f9.f1, .int .i64 m.f9.f2, .slice A12 m.f9.f3.length c12, .int .i64 m.f10.f0, .int .i64 m.f10.f1, .int .i64 m.f10.f2, .slice A16 m.f10.f3.length c16]] w fun e w' => e = .returned (.bool (mayMs m)) ∧ Below w.heap.size w w' := by
 have hb := (Below.refl _ w).alloc (Nat.le_refl _) (.cells #[.int .i64 m.f0, .int .i64 m.f1, .int .i64 m.f2, .int .i64 m.f3, .int .i64 m.f4, .int .i64 m.f5, .int .i64 m.f6, .bool m.f7, .slice A8 m.f8.length c8, .int .i64 m.f9.f0, .int .i64 m.f9.f1, .int .i64 m.f9.f2, .slice A12 m.f9.f3.length c12, .int .i64 m.f10.f0, .int .i64 m.f10.f1, .int .i64 m.f10.f2, .slice A16 m.f10.f3.length c16] 34)
 have HB0 := Lib.hid hb; have HX0 := Lib.hid (show MsBox (w.alloc (.cells #[.int .i64 m.f0, .int .i64 m.f1, .int .i64 m.f2, .int .i64 m.f3, .int .i64 m.f4, .int .i64 m.f5, .int .i64 m.f6, .bool m.f7, .slice A8 m.f8.length c8, .int .i64 m.f9.f0, .int .i64 m.f9.f1, .int .i64 m.f9.f2, .slice A12 m.f9.f3.length c12, .int .i64 m.f10.f0, .int .i64 m.f10.f1, .int .i64 m.f10.f2, .slice A16 m.f10.f3.length c16] 34)) w.heap.size m A8 c8 A12 c12 A16 c16 from heap_alloc_new w _); have HM0 := Lib.hid (hm.below hb); have HPI := Lib.hid hp
 have hlm : m.f8.length ≤ 9223372036854775807 := Kd.C_max hm.g8
 obtain ⟨q, hq⟩ : ∃ q, mayMs m = q := ⟨_, rfl⟩
 have HQ := Lib.hid hq
 rw [hq]
 clear hq hm hp hb
 go_enter Tryz.func45, Tryz.ntmps45
 go_upto_region 1 with fail
 obtain ⟨v0, hw⟩ : ∃ v, w.alloc (.cells #[.int .i64 m.f0, .int .i64 m.f1, .int .i64 m.f2, .int .i64 m.f3, .int .i64 m.f4, .int .i64 m.f5, .int .i64 m.f6, .bool m.f7, .slice A8 m.f8.length c8, .int .i64 m.f9.f0, .int .i64 m.f9.f1, .int .i64 m.f9.f2, .slice A12 m.f9.f3.length c12, .int .i64 m.f10.f0, .int .i64 m.f10.f1, .int .i64 m.f10.f2, .slice A16 m.f10.f3.length c16] 34) = v := ⟨_, rfl⟩
 obtain ⟨g, hg⟩ : ∃ g, w.heap.size = g := ⟨_, rfl⟩
 have HG := Lib.hid hg
 rw [hw] at HB0 HX0 HM0 ⊢
 rw [hg] at HX0 ⊢
 clear hw hg
 obtain ⟨b0, hb0⟩ : ∃ b, inB 0 4 [m.f1] = b := ⟨_, rfl⟩
 obtain ⟨b1, hb1⟩ : ∃ b, inB 0 4 [m.f2] = b := ⟨_, rfl⟩
 obtain ⟨b2, hb2⟩ : ∃ b, inB 0 1099511627776 [m.f3, m.f4, m.f5, m.f6] = b := ⟨_, rfl⟩
 obtain ⟨b3, hb3⟩ : ∃ b, isKind m.f0 = b := ⟨_, rfl⟩
 obtain ⟨b4, hb4⟩ : ∃ b, eqMs (bareM m) m = b := ⟨_, rfl⟩
 obtain ⟨b5, hb5⟩ : ∃ b : Bool, decide (4096 < (m.f8.length : Int)) = b := ⟨_, rfl⟩
 obtain ⟨b6, hb6⟩ : ∃ b, m.f8.all mayTr = b := ⟨_, rfl⟩
 obtain ⟨b7, hb7⟩ : ∃ b, mayPt m.f10 = b := ⟨_, rfl⟩
 obtain ⟨b8, hb8⟩ : ∃ b, mayE m.f9.f0 m.f9.f1 m.f9.f2 m.f9.f3 = b := ⟨_, rfl⟩
 obtain ⟨k5, hk5⟩ : ∃ b : Bool, (m.f0 != 5) = b := ⟨_, rfl⟩
 obtain ⟨k6, hk6⟩ : ∃ b : Bool, (m.f0 != 6) = b := ⟨_, rfl⟩
 have HV := Lib.hid (show q = (b0 && (b1 && (b2 && (b3 && (b4 && (!b5 && (b6 && ((k5 || b7) && (k6 || b8)))))))))  by
  rw [← HQ.out, ← hb0, ← hb1, ← hb2, ← hb3, ← hb4, ← hb5, ← hb6, ← hb7, ← hb8, ← hk5, ← hk6]
  unfold mayMs
  have e1 : decide ((m.f8.length : Int) ≤ 4096) = !decide (4096 < (m.f8.length : Int)) := by
   by_cases h : (m.f8.length : Int) ≤ 4096
   ·rw [decide_eq_true h, decide_eq_false (by omega)]; rfl
   ·rw [decide_eq_false h, decide_eq_true (by omega)]; rfl
  rw [e1]
  rfl)
 have H0 := Lib.hid hb0; have H1 := Lib.hid hb1; have H2 := Lib.hid hb2; have H3 := Lib.hid hb3; have H4 := Lib.hid hb4; have H6 := Lib.hid hb6; have H7 := Lib.hid hb7; have H8 := Lib.hid hb8
 clear hb0 hb1 hb2 hb3 hb4 hb6 hb7 hb8
 obtain ⟨a0, a1, a2, a3, a4, a5, a6, a7, a8, a9, a10, a11, a12, a13, a14, a15, a16⟩ := HX0.out.cell
 go_wp2_with fail
 have h4 := G.record_who.calls m.f1 (inB 0 4 [m.f1]) v0 rfl
 rw [H0.out] at h4
 refine h4.mono ?_
 rintro e v1 ⟨rfl, hb⟩
 have HB1 := Lib.hid (HB0.out.trans (hb.mono HB0.out.size)); have HX1 := Lib.hid (HX0.out.below hb); have HM1 := Lib.hid (HM0.out.below hb)
 clear h4 hb HB0 HX0 HM0 a0 a1 a2 a3 a4 a5 a6 a7 a8 a9 a10 a11 a12 a13 a14 a15 a16
 obtain ⟨a0, a1, a2, a3, a4, a5, a6, a7, a8, a9, a10, a11, a12, a13, a14, a15, a16⟩ := HX1.out.cell
 cases b0 with
 | false =>
  have HW := Lib.hid (show q = false by rw [HV.out]; simp)
  go_wp2_with fail
  go_ret
  exact ⟨by rw [HW.out]; rfl, HB1.out⟩
 | true =>
  go_wp2_with fail
  have h4 := G.record_who.calls m.f2 (inB 0 4 [m.f2]) v1 rfl
  rw [H1.out] at h4
  refine h4.mono ?_
  rintro e v2 ⟨rfl, hb⟩
  have HB2 := Lib.hid (HB1.out.trans (hb.mono HB1.out.size)); have HX2 := Lib.hid (HX1.out.below hb); have HM2 := Lib.hid (HM1.out.below hb)
  clear h4 hb HB1 HX1 HM1 a0 a1 a2 a3 a4 a5 a6 a7 a8 a9 a10 a11 a12 a13 a14 a15 a16
  obtain ⟨a0, a1, a2, a3, a4, a5, a6, a7, a8, a9, a10, a11, a12, a13, a14, a15, a16⟩ := HX2.out.cell
  cases b1 with
  | false =>
   have HW := Lib.hid (show q = false by rw [HV.out]; simp)
   go_wp2_with fail
   go_ret
   exact ⟨by rw [HW.out]; rfl, HB2.out⟩
  | true =>
   obtain ⟨h1, h2⟩ := lit_new v2 [m.f3, m.f4, m.f5, m.f6] (by simp)
   simp only [List.map_cons, List.map_nil, List.length_cons, List.length_nil, Nat.zero_add, Nat.reduceAdd] at h1 h2
   have HLa := Lib.hid h2; have HBa := Lib.hid (HB2.out.trans (h1.mono HB2.out.size)); have HXa := Lib.hid (HX2.out.below h1); have HMa := Lib.hid (HM2.out.below h1)
   clear h1 h2
   go_wp2_with fail
   have h4 := G.record_count.calls (some ⟨v2.heap.size, 0, none⟩) 4 [m.f3, m.f4, m.f5, m.f6] b2 _ HLa.out (Nat.le_refl _) (by unfold G.record_count.f G.record_between.f; rw [H2.out]; rfl)
   refine h4.mono ?_
   rintro e v3 ⟨rfl, hb⟩
   have HB3 := Lib.hid (HBa.out.trans (hb.mono HBa.out.size)); have HX3 := Lib.hid (HXa.out.below hb); have HM3 := Lib.hid (HMa.out.below hb)
   clear h4 hb HB2 HX2 HM2 HBa HXa HMa HLa a0 a1 a2 a3 a4 a5 a6 a7 a8 a9 a10 a11 a12 a13 a14 a15 a16
   obtain ⟨a0, a1, a2, a3, a4, a5, a6, a7, a8, a9, a10, a11, a12, a13, a14, a15, a16⟩ := HX3.out.cell
   cases b2 with
   | false =>
    have HW := Lib.hid (show q = false by rw [HV.out]; simp)
    go_wp2_with fail
    go_ret
    exact ⟨by rw [HW.out]; rfl, HB3.out⟩
   | true =>
    go_wp2_with fail
    have h4 := bare_is m HM3.out
    refine h4.mono ?_
    rintro e v4 ⟨y, B8, B12, B16, d8, d12, d16, rfl, hy, hyc, hb⟩
    rw [H3.out] at hy ⊢
    have HB4 := Lib.hid (HB3.out.trans (hb.mono HB3.out.size)); have HX4 := Lib.hid (HX3.out.below hb); have HM4 := Lib.hid (HM3.out.below hb); have HY := Lib.hid hy; have HYC := Lib.hid hyc
    clear h4 hb HB3 HX3 HM3 hy hyc a0 a1 a2 a3 a4 a5 a6 a7 a8 a9 a10 a11 a12 a13 a14 a15 a16
    obtain ⟨a0, a1, a2, a3, a4, a5, a6, a7, a8, a9, a10, a11, a12, a13, a14, a15, a16⟩ := HX4.out.cell
    go_upto_region 4 with fail
    have hbx := heap_alloc_new v4 (.cells #[.int .i64 y.f0, .int .i64 y.f1, .int .i64 y.f2, .int .i64 y.f3, .int .i64 y.f4, .int .i64 y.f5, .int .i64 y.f6, .bool y.f7, .slice B8 y.f8.length d8, .int .i64 y.f9.f0, .int .i64 y.f9.f1, .int .i64 y.f9.f2, .slice B12 y.f9.f3.length d12, .int .i64 y.f10.f0, .int .i64 y.f10.f1, .int .i64 y.f10.f2, .slice B16 y.f10.f3.length d16] 34)
    have hay := (Below.refl _ v4).alloc (Nat.le_refl _) (.cells #[.int .i64 y.f0, .int .i64 y.f1, .int .i64 y.f2, .int .i64 y.f3, .int .i64 y.f4, .int .i64 y.f5, .int .i64 y.f6, .bool y.f7, .slice B8 y.f8.length d8, .int .i64 y.f9.f0, .int .i64 y.f9.f1, .int .i64 y.f9.f2, .slice B12 y.f9.f3.length d12, .int .i64 y.f10.f0, .int .i64 y.f10.f1, .int .i64 y.f10.f2, .slice B16 y.f10.f3.length d16] 34)
    obtain ⟨v5, hw⟩ : ∃ v, v4.alloc (.cells #[.int .i64 y.f0, .int .i64 y.f1, .int .i64 y.f2, .int .i64 y.f3, .int .i64 y.f4, .int .i64 y.f5, .int .i64 y.f6, .bool y.f7, .slice B8 y.f8.length d8, .int .i64 y.f9.f0, .int .i64 y.f9.f1, .int .i64 y.f9.f2, .slice B12 y.f9.f3.length d12, .int .i64 y.f10.f0, .int .i64 y.f10.f1, .int .i64 y.f10.f2, .slice B16 y.f10.f3.length d16] 34) = v := ⟨_, rfl⟩
    rw [hw] at hbx hay ⊢
    clear hw
    have HB5 := Lib.hid (HB4.out.trans (hay.mono HB4.out.size)); have HX5 := Lib.hid (HX4.out.below hay); have HM5 := Lib.hid (HM4.out.below hay); have HYD := Lib.hid (HYC.out.below hay)
    obtain ⟨gy, hgy⟩ : ∃ gy, v4.heap.size = gy := ⟨_, rfl⟩
    rw [hgy] at hbx ⊢
    have HYX := Lib.hid (show MsBox v5 gy y B8 d8 B12 d12 B16 d16 from hbx)
    clear hbx hay hgy HB4 HX4 HM4 HYC a0 a1 a2 a3 a4 a5 a6 a7 a8 a9 a10 a11 a12 a13 a14 a15 a16
    obtain ⟨a0, a1, a2, a3, a4, a5, a6, a7, a8, a9, a10, a11, a12, a13, a14, a15, a16⟩ := HX5.out.cell
    cases b3 with
    | false =>
     have HW := Lib.hid (show q = false by rw [HV.out]; simp)
     go_wp2_with fail
     go_ret
     exact ⟨by rw [HW.out]; rfl, HB5.out⟩
    | true =>
     have HYE := Lib.hid (HY.out rfl)
     refine wp_region_list ?_
     refine wpList_cut 3 ?_
     simp only [List.take_succ_cons, List.take_zero, List.drop_succ_cons, List.drop_zero]
     go_wp2_with fail
     refine Halt.mk ?_
     refine gate_guard (by rfl) ?_
     dsimp only
     refine wpList_load_row rfl 34 (.tmp 3) rfl gy rfl 34 #[.int .i64 y.f0, .int .i64 y.f1, .int .i64 y.f2, .int .i64 y.f3, .int .i64 y.f4, .int .i64 y.f5, .int .i64 y.f6, .bool y.f7, .slice B8 y.f8.length d8, .int .i64 y.f9.f0, .int .i64 y.f9.f1, .int .i64 y.f9.f2, .slice B12 y.f9.f3.length d12, .int .i64 y.f10.f0, .int .i64 y.f10.f1, .int .i64 y.f10.f2, .slice B16 y.f10.f3.length d16] (0, 0) _ HYX.out Tryz.underlying34 rfl (by kernel_rfl) ?_
     refine gate_guard (by rfl) ?_
     dsimp only
     refine wpList_load_row rfl 34 (.tmp 1) rfl g rfl 34 #[.int .i64 m.f0, .int .i64 m.f1, .int .i64 m.f2, .int .i64 m.f3, .int .i64 m.f4, .int .i64 m.f5, .int .i64 m.f6, .bool m.f7, .slice A8 m.f8.length c8, .int .i64 m.f9.f0, .int .i64 m.f9.f1, .int .i64 m.f9.f2, .slice A12 m.f9.f3.length c12, .int .i64 m.f10.f0, .int .i64 m.f10.f1, .int .i64 m.f10.f2, .slice A16 m.f10.f3.length c16] (0, 0) _ HX5.out Tryz.underlying34 rfl (by kernel_rfl) ?_
     go_wp2_with fail
     have H4' := Lib.hid (show eqMs y m = b4 by rw [HYE.out]; exact H4.out)
     clear HYE HY
     have h4 := sameMs_is y m HYD.out HM5.out
     rw [H4'.out] at h4
     refine h4.mono ?_
     rintro e v6 ⟨rfl, hb⟩
     have HB6 := Lib.hid (HB5.out.trans (hb.mono HB5.out.size)); have HX6 := Lib.hid (HX5.out.below hb); have HM6 := Lib.hid (HM5.out.below hb)
     clear h4 hb HB5 HX5 HM5 a0 a1 a2 a3 a4 a5 a6 a7 a8 a9 a10 a11 a12 a13 a14 a15 a16
     obtain ⟨a0, a1, a2, a3, a4, a5, a6, a7, a8, a9, a10, a11, a12, a13, a14, a15, a16⟩ := HX6.out.cell
     cases b4 with
     | false =>
      have HW := Lib.hid (show q = false by rw [HV.out]; simp)
      go_wp2_with fail
      go_ret
      exact ⟨by rw [HW.out]; rfl, HB6.out⟩
     | true =>
      cases b5 with
      | true =>
       have HW := Lib.hid (show q = false by rw [HV.out]; simp)
       go_wp2_with fail
       go_ret
       exact ⟨by rw [HW.out]; rfl, HB6.out⟩
      | false =>
       go_wp2_with fail
       have h4 := tr_has A8 c8 m.f8 v6 HM6.out.g8
       rw [H6.out] at h4
       refine h4.mono ?_
       rintro e v7 ⟨rfl, hb⟩
       have HB7 := Lib.hid (HB6.out.trans (hb.mono HB6.out.size)); have HX7 := Lib.hid (HX6.out.below hb); have HM7 := Lib.hid (HM6.out.below hb)
       clear h4 hb HB6 HX6 HM6 a0 a1 a2 a3 a4 a5 a6 a7 a8 a9 a10 a11 a12 a13 a14 a15 a16
       obtain ⟨a0, a1, a2, a3, a4, a5, a6, a7, a8, a9, a10, a11, a12, a13, a14, a15, a16⟩ := HX7.out.cell
       cases b6 with
       | false =>
        have HW := Lib.hid (show q = false by rw [HV.out]; simp)
        go_wp2_with fail
        go_ret
        exact ⟨by rw [HW.out]; rfl, HB7.out⟩
       | true =>
        cases k5 with
        | true =>
         cases k6 with
         | true =>
          have HW := Lib.hid (show q = true by rw [HV.out]; simp)
          go_wp2_with fail
          go_ret
          exact ⟨by rw [HW.out]; rfl, HB7.out⟩
         | false =>
          go_wp2_with fail
          have h4 := mayEn_is m.f9.f0 m.f9.f1 m.f9.f2 A12 c12 m.f9.f3 v7 HM7.out.g12
          rw [H8.out] at h4
          refine h4.mono ?_
          rintro e v8 ⟨rfl, hb⟩
          have HB8 := Lib.hid (HB7.out.trans (hb.mono HB7.out.size)); have HX8 := Lib.hid (HX7.out.below hb); have HM8 := Lib.hid (HM7.out.below hb)
          clear h4 hb HB7 HX7 HM7 a0 a1 a2 a3 a4 a5 a6 a7 a8 a9 a10 a11 a12 a13 a14 a15 a16
          obtain ⟨a0, a1, a2, a3, a4, a5, a6, a7, a8, a9, a10, a11, a12, a13, a14, a15, a16⟩ := HX8.out.cell
          have HW := Lib.hid (show q = b8 by rw [HV.out]; simp)
          go_wp2_with fail
          go_ret
          exact ⟨by rw [HW.out]; rfl, HB8.out⟩
        | false =>
         go_wp2_with fail
         have h4 := part_is (c := c16) m.f10 HPI.out HM7.out.g16
         rw [H7.out] at h4
         refine h4.mono ?_
         rintro e v8 ⟨rfl, hb⟩
         have HB8 := Lib.hid (HB7.out.trans (hb.mono HB7.out.size)); have HX8 := Lib.hid (HX7.out.below hb); have HM8 := Lib.hid (HM7.out.below hb)
         clear h4 hb HB7 HX7 HM7 a0 a1 a2 a3 a4 a5 a6 a7 a8 a9 a10 a11 a12 a13 a14 a15 a16
         obtain ⟨a0, a1, a2, a3, a4, a5, a6, a7, a8, a9, a10, a11, a12, a13, a14, a15, a16⟩ := HX8.out.cell
         cases b7 with
         | false =>
          have HW := Lib.hid (show q = false by rw [HV.out]; simp)
          go_wp2_with fail
          go_ret
          exact ⟨by rw [HW.out]; rfl, HB8.out⟩
         | true =>
          cases k6 with
          | true =>
           have HW := Lib.hid (show q = true by rw [HV.out]; simp)
           go_wp2_with fail
           go_ret
           exact ⟨by rw [HW.out]; rfl, HB8.out⟩
          | false =>
           go_wp2_with fail
           have h4 := mayEn_is m.f9.f0 m.f9.f1 m.f9.f2 A12 c12 m.f9.f3 v8 HM8.out.g12
           rw [H8.out] at h4
           refine h4.mono ?_
           rintro e v9 ⟨rfl, hb⟩
           have HB9 := Lib.hid (HB8.out.trans (hb.mono HB8.out.size)); have HX9 := Lib.hid (HX8.out.below hb); have HM9 := Lib.hid (HM8.out.below hb)
           clear h4 hb HB8 HX8 HM8 a0 a1 a2 a3 a4 a5 a6 a7 a8 a9 a10 a11 a12 a13 a14 a15 a16
           obtain ⟨a0, a1, a2, a3, a4, a5, a6, a7, a8, a9, a10, a11, a12, a13, a14, a15, a16⟩ := HX9.out.cell
           have HW := Lib.hid (show q = b8 by rw [HV.out]; simp)
           go_wp2_with fail
           go_ret
           exact ⟨by rw [HW.out]; rfl, HB9.out⟩
end Go.Proofs.YtgiefblcckikeaaGreat.M
end

section
/- Contract of trivet/trivetref01.TakeNum. -/
set_option maxRecDepth 100000
namespace Go.Proofs.YtgiefblcckikeaaGreat.M
open Go.RowKit Go.Proofs.YtgiefblcckikeaaGreatW.PrintWords
theorem takeNum_bad {l : List Int} {e : Int} (h : tkE l = e) (he : ¬ e = 0) : takeNum l = (0, 0, e) := by
 unfold takeNum
 rw [h, if_neg he]
theorem takeNum_good {l : List Int} (h : tkE l = 0) : takeNum l = (tkN l, tkS l, 0) := by
 unfold takeNum
 rw [if_pos h]
def tri (x : Int × Int × Int) : Ending := .returned (.tuple #[.int .i64 x.1, .int .i64 x.2.1, .int .i64 x.2.2])
set_option maxHeartbeats 1000000 in
theorem refTake_any (A : Option Addr) (c : Nat) (l : List Int) (w : World) (hr : Kd.C (Kd.int .u8) w A l.length l) (hc : l.length ≤ c) (hb : okB l = true) :
  Calls Tryz.prog 129 #[.slice A l.length c] w fun e w' => e = tri (takeNum l) ∧ w = w' := by
 have HR := Aside0.mk hr
 have HC := Aside0.mk hc
 have HB := Aside0.mk hb
 clear hr hc hb
 obtain ⟨E, hE⟩ : ∃ E, tri (takeNum l) = E := ⟨_, rfl⟩
 rw [hE]
 have HE := Aside0.mk hE
 clear hE
 by_cases h1 : l = []
 ·have he : tkE l = 10 := by unfold tkE; rw [if_pos h1]
  have HF := Aside0.mk (HE.out.symm.trans (congrArg tri (takeNum_bad he (by decide))))
  subst h1
  clear he
  go_enter Tryz.func129, Tryz.ntmps129
  go_wp2
  go_ret3
  exact ⟨HF.out.symm, rfl⟩
 have hl : 0 < l.length := List.length_pos_iff.2 h1
 have hlz : ((l.length : Int) == 0) = false := beq_eq_false_iff_ne.2 (by omega)
 have hb0 := okB_rd HB.out 0
 obtain ⟨ad, hA, hx0⟩ := Kd.at_int HR.out 0 (by omega) (by omega)
 rw [show ((0 : Int)).toNat = 0 from rfl, Addr.add_zero'] at hx0
 subst hA
 have hmx : (l.length : Int) ≤ 9223372036854775807 := by have := Kd.C_max HR.out; omega
 by_cases h2 : 17 < rd l 0 ∨ rd l 0 = 1
 ·have he : tkE l = 11 := by unfold tkE; rw [if_neg h1, if_pos h2]
  have HF := Aside0.mk (HE.out.symm.trans (congrArg tri (takeNum_bad he (by decide))))
  have h3 : decide (17 < rd l 0) = true ∨ (decide (17 < rd l 0) = false ∧ (rd l 0 == 1) = true) := by
   rcases h2 with h | h
   ·exact .inl (decide_eq_true h)
   ·exact .inr ⟨decide_eq_false (by omega), by rw [h]; rfl⟩
  clear h2 he h1
  rcases h3 with h3 | ⟨h3, h4⟩
  all_goals
   go_enter Tryz.func129, Tryz.ntmps129
   go_wp2
   go_ret3
   exact ⟨HF.out.symm, rfl⟩
 have h3 : decide (17 < rd l 0) = false := decide_eq_false (by omega)
 have h4 : (rd l 0 == 1) = false := beq_eq_false_iff_ne.2 (by omega)
 obtain ⟨k, hk⟩ : ∃ k, tkK l = k := ⟨_, rfl⟩
 have hk8 : k ≤ 8 := by unfold tkK at hk; omega
 have hq : rd l 0 / 2 = (k : Int) := by unfold tkK at hk; omega
 by_cases h5 : l.length ≤ k
 ·have he : tkE l = 10 := by unfold tkE; rw [if_neg h1, if_neg h2, hk, if_pos h5]
  have HF := Aside0.mk (HE.out.symm.trans (congrArg tri (takeNum_bad he (by decide))))
  have h6 : (l.length : Int) - 1 < (k : Int) := by omega
  clear h2 he h1
  have HK := Lib.hid hk
  clear hk
  go_enter Tryz.func129, Tryz.ntmps129
  go_wp2
  go_ret3
  exact ⟨HF.out.symm, rfl⟩
 have h6 : ¬ (l.length : Int) - 1 < (k : Int) := by omega
 have hrk : ∀ i : Nat, i ≤ k → w.cell? (ad.add i) = some (.int .u8 (rd l (i : Int))) := by
  intro i hi
  obtain ⟨ad', hA, hx⟩ := Kd.at_int HR.out (i : Int) (by omega) (by omega)
  obtain rfl : ad = ad' := by injection hA
  simpa using hx
 have hxk := hrk k (Nat.le_refl _)
 have h11 : (k : Int) < (l.length : Int) := by omega
 have HP := Aside0.mk (show tkE l = if 0 < k ∧ rd l k = 0 then 11 else if big63 < tkU l ∨ (tkU l = big63 ∧ rd l 0 % 2 = 0) then 11 else 0 by unfold tkE; rw [if_neg h1, if_neg h2, hk, if_neg h5])
 have HK := Lib.hid hk
 have HRK := Aside0.mk hrk
 clear hk hrk h2 h5
 go_enter Tryz.func129, Tryz.ntmps129
 go_wp2
 go_loop [6, 7] (fun u i => ∃ (j : Nat) (U : Int), j ≤ tkK l ∧ i = .int .i64 (j : Int) ∧ u = .int .u64 U ∧ Aside0 (U = upFrom l j (tkK l))) (fun _ i => (intOf i).toNat)
 case atStart => exact ⟨tkK l, 0, Nat.le_refl _, by rw [HK.out], rfl, ⟨(upFrom_end _ _).symm⟩⟩
 case round =>
  obtain ⟨j, U, hj, rfl, rfl, HU⟩ := hrel
  have hk8' : tkK l ≤ 8 := by rw [HK.out]; exact hk8
  have hkl : tkK l < l.length := by rw [HK.out]; omega
  by_cases hlt : 0 < j
  ·have hxj := HRK.out j (by rw [← HK.out]; exact hj)
   have hj0 : (0 : Int) ≤ (j : Int) := by omega
   have hj1 : (j : Int) < (l.length : Int) := by omega
   have hj2 : (1 : Int) ≤ (j : Int) := by omega
   have hbj := okB_rd HB.out (j : Int)
   have HV := Aside0.mk (show 256 * U + rd l j = upFrom l (j - 1) (tkK l) by
    rw [HU.out, upFrom_step hlt hj hkl]; omega)
   have hU0 : 0 ≤ U := by rw [HU.out]; exact upFrom_nonneg HB.out _ _
   have hU1 : U < 72057594037927936 := by rw [HU.out]; exact upFrom_lt HB.out hlt hk8'
   go_wp2
   go_round
   case rel =>
    refine ⟨j - 1, _, by omega, by go_num, rfl, ⟨?_⟩⟩
    exact HV.out
   case measure => simp [intOf]; omega
  ·obtain rfl : j = 0 := by omega
   have hU : U = tkU l := by rw [HU.out, upFrom_zero]
   have hu0 : 0 ≤ U := by rw [HU.out]; exact upFrom_nonneg HB.out 0 _
   have hu1 : U < 18446744073709551616 := by rw [HU.out]; exact upFrom_lt8 HB.out (j := 0) hk8'
   have hS : tkS l = 1 + (tkK l : Int) := by unfold tkS; omega
   rw [HK.out] at hS
   have hup : k = 0 → U = 0 := by intro h; rw [HU.out, HK.out, h, upFrom_end]
   have hT := HP.out
   rw [← hU] at hT
   unfold big63 at hT
   have hm : rd l 0 % 2 = 0 ∨ rd l 0 % 2 = 1 := by omega
   by_cases h7 : 0 < k ∧ rd l k = 0
   ·have HF := Aside0.mk (HE.out.symm.trans (congrArg tri (takeNum_bad (e := 11) (by rw [hT, if_pos h7]) (by decide))))
    obtain ⟨h8, h9⟩ := h7
    rw [h9] at hxk
    clear hT hU HU hS h9 hm hup
    go_wp2
    go_ret3
    exact ⟨HF.out.symm, rfl⟩
   have h8 : (¬ 0 < k) ∨ (0 < k ∧ (rd l k == 0) = false) := by
    rcases Nat.eq_zero_or_pos k with h | h
    ·exact .inl (by omega)
    ·exact .inr ⟨h, beq_eq_false_iff_ne.2 (fun h' => h7 ⟨h, h'⟩)⟩
   rw [if_neg h7] at hT
   clear h7 hup
   rcases hm with hm | hm
   ·have hm1 : (rd l 0 % 2 == 0) = true := beq_iff_eq.2 hm
    by_cases hg : U < 9223372036854775808
    ·have hN : tkN l = U := by unfold tkN; rw [if_neg (by omega), hU]
     have HF := Aside0.mk (HE.out.symm.trans (congrArg tri (takeNum_good (by rw [hT, if_neg (by omega)]))))
     rw [hN, hS] at HF
     clear hU HU hN hS hT hm
     have hg1 : decide (9223372036854775808 ≤ U) = false := decide_eq_false (by omega)
     rcases h8 with h8 | ⟨h8, h9⟩
     all_goals
      go_wp2
      go_ret3
      exact ⟨HF.out.symm, rfl⟩
    ·have HF := Aside0.mk (HE.out.symm.trans (congrArg tri (takeNum_bad (e := 11) (by rw [hT, if_pos (by omega)]) (by decide))))
     clear hU HU hS hT hm
     have hg1 : decide (9223372036854775808 ≤ U) = true := decide_eq_true (by omega)
     rcases h8 with h8 | ⟨h8, h9⟩
     all_goals
      go_wp2
      go_ret3
      exact ⟨HF.out.symm, rfl⟩
   ·have hm1 : (rd l 0 % 2 == 0) = false := beq_eq_false_iff_ne.2 (by omega)
    by_cases hg : 9223372036854775808 < U
    ·have HF := Aside0.mk (HE.out.symm.trans (congrArg tri (takeNum_bad (e := 11) (by rw [hT, if_pos (by omega)]) (by decide))))
     clear hU HU hS hT hm
     have hg1 : decide (9223372036854775808 < U) = true := decide_eq_true hg
     rcases h8 with h8 | ⟨h8, h9⟩
     all_goals
      go_wp2
      go_ret3
      exact ⟨HF.out.symm, rfl⟩
    ·have hN : tkN l = wrap64 (wrap64 (-(wrap64 (IntKind.u64.wrap (U - 1)))) - 1) := by
      unfold tkN; rw [if_pos hm, hU, IntKind.wrap_u64]; unfold wrap64; omega
     have HF := Aside0.mk (HE.out.symm.trans (congrArg tri (takeNum_good (by rw [hT, if_neg (by omega)]))))
     rw [hN, hS] at HF
     clear hU HU hN hS hT hm
     have hg1 : decide (9223372036854775808 < U) = false := decide_eq_false (by omega)
     rcases h8 with h8 | ⟨h8, h9⟩
     all_goals
      go_wp2
      go_ret3
      exact ⟨HF.out.symm, rfl⟩
end Go.Proofs.YtgiefblcckikeaaGreat.M
namespace Go.Proofs.YtgiefblcckikeaaGreat.G
open Go.RowKit Go.Proofs.YtgiefblcckikeaaGreatW.PrintWords Go.Proofs.YtgiefblcckikeaaGreat.M
def trivetref01_TakeNum.f (l0 : List Int) : Option (Int × Int × Int) := if okB l0 = true then some (takeNum l0) else none
theorem trivetref01_TakeNum.calls (A0 : Option Addr) (c0 : Nat) (l0 : List Int) (r1 : Int) (r2 : Int) (r3 : Int) (w : World) (hr0 : Kd.C (Kd.int .u8) w A0 l0.length l0) (hc0 : l0.length ≤ c0) (h : trivetref01_TakeNum.f l0 = some (r1, r2, r3)) :
  Calls Tryz.prog 129 #[.slice A0 l0.length c0] w fun e w' => e = .returned (.tuple #[.int .i64 r1, .int .i64 r2, .int .i64 r3]) ∧ Below w.heap.size w w' := by
 unfold trivetref01_TakeNum.f at h
 split at h
 ·rename_i hb
  have h := Option.some.inj h
  have h1 : r1 = (takeNum l0).1 := by rw [h]
  have h2 : r2 = (takeNum l0).2.1 := by rw [h]
  have h3 : r3 = (takeNum l0).2.2 := by rw [h]
  rw [h1, h2, h3]
  refine (refTake_any A0 c0 l0 w hr0 hc0 hb).mono ?_
  rintro e w' ⟨rfl, rfl⟩
  exact ⟨rfl, Below.refl _ _⟩
 ·cases h
end Go.Proofs.YtgiefblcckikeaaGreat.G
end

section
-- Written by a program of this session's (wip/gprint.py over the kit's printer).
namespace Go.Proofs.YtgiefblcckikeaaGreat.G
open Go.RowKit Go.Proofs.YtgiefblcckikeaaGreatW.PrintWords Go.Proofs.YtgiefblcckikeaaGreatW.PrintLast Go.Proofs.YtgiefblcckikeaaGreatW.PrintMore
attribute [local go_sem] max2_int min2_int max_two min_two max_three min_three max_four min_four   -- for this text's walks alone
def trivetref01_low.l0 : Nat → Int → List Int → Int → Option (List Int)
 | 0, _, _, _ => none
 | k + 1, x0, x3, x4 => if x4 < 8 then (if 0 ≤ (wrap64 (8 * x4)) then (if x3.length < 140737488355328 then (trivetref01_low.l0 k x0 (x3 ++ [(shr .u64 x0 (wrap64 (8 * x4))) % 256]) (wrap64 (x4 + 1))) else (none)) else (none)) else (some x3)
def trivetref01_low.f (k : Nat) (a0 : Int) : Option (List Int) := trivetref01_low.l0 k a0 ([] : List Int) 0
theorem trivetref01_low.mono_l : ∀ k, (∀ y0 y1 y2, LeO (trivetref01_low.l0 k y0 y1 y2) (trivetref01_low.l0 (k + 1) y0 y1 y2))
 | 0 => fun _ _ _ r h => by simp [trivetref01_low.l0] at h
 | k + 1 => by
  have ih0 := trivetref01_low.mono_l k
  ·intro y0 y1 y2
   unfold trivetref01_low.l0
   repeat' first
   | (with_reducible exact ih0 _ _ _)
   | (with_reducible exact LeO.refl _)
   | (with_reducible exact LeO.none _)
   | (with_reducible refine LeO.ite ?_ ?_)
   | (with_reducible refine LeO.bind ?_ (fun _ => ?_))
   | exact ih0 _ _ _
   | exact LeO.none _
   | refine LeO.ite ?_ ?_
   | refine LeO.bind ?_ (fun _ => ?_)
theorem trivetref01_low.mono : ∀ a0 k, LeO (trivetref01_low.f k a0) (trivetref01_low.f (k + 1) a0) := by
 intro a0 k
 have ih0 := trivetref01_low.mono_l k
 unfold trivetref01_low.f
 repeat' first
   | (with_reducible exact ih0 _ _ _)
   | (with_reducible exact LeO.refl _)
   | (with_reducible exact LeO.none _)
   | (with_reducible refine LeO.ite ?_ ?_)
   | (with_reducible refine LeO.bind ?_ (fun _ => ?_))
   | exact ih0 _ _ _
   | exact LeO.none _
   | refine LeO.ite ?_ ?_
   | refine LeO.bind ?_ (fun _ => ?_)
set_option maxHeartbeats 8000000 in
set_option maxRecDepth 100000 in
theorem trivetref01_low.calls (k : Nat) (a0 : Int) (r : List Int) (w : World) (h : trivetref01_low.f k a0 = some r) :
  Calls Tryz.prog 108 #[.int .u64 a0] w fun e w' => ∃ v0_ : Value, e = .returned (v0_) ∧ Kd.R (Kd.int .u8) 5 w' w.heap.size (fun _ => True) v0_ r ∧ Below w.heap.size w w' := by
 have HB := Aside0.mk (Below.refl w.heap.size w)
 have H : (trivetref01_low.l0 k a0 ([] : List Int) 0) = some r := h
 clear h
 have H' := Aside0.mk H
 clear H
 go_enter Tryz.func108, Tryz.ntmps108
 go_wp2
 go_loopg [3, 4] k (fun kq v3 v4 w' => ∃ (x3_1 : List Int) (x4_1 : Int), v4 = .int .i64 x4_1 ∧ Aside0 (trivetref01_low.l0 kq a0 x3_1 x4_1 = some r) ∧ Aside0 (kq ≤ k) ∧ Aside0 (Kd.R (Kd.int .u8) 5 w' w.heap.size (fun _ => True) v3 x3_1) ∧ Aside0 (Below w.heap.size w w'))
 case atStart => exact ⟨(([] : List Int)), (0), (by first | rfl | (simp; done) | (simp [*]; done)), H', ⟨Nat.le_refl _⟩, ⟨by first | exact Kd.R_nil _ _ _ _ _ | exact Kd.N_nil _ _ _ _ _ | exact Kd.V_nil _ _ _ _ _ | exact Kd.Q_nil _ _ _ _ _ | exact Kd.S_nil _ _ _ _ _⟩, ⟨stB HB.out⟩⟩
 case round =>
  clear H'
  try clear c1
  obtain ⟨x3_1, x4_1, rfl, HA, HK1, HO_3, HB⟩ := hrel
  cases gk with
  | zero => exact absurd HA.out (by simp [trivetref01_low.l0])
  | succ k1 =>
   have H := HA.out
   clear HA
   simp only [trivetref01_low.l0] at H
   by_cases c2 : x4_1 < 8
   ·rw [if_pos c2] at H
    have c2b0 : decide (x4_1 < 8) = true := decide_eq_true c2
    clear c2
    obtain ⟨ji3, hji3⟩ : ∃ j_ : Int, (wrap64 (8 * x4_1)) = j_ := ⟨_, rfl⟩
    replace H : (if 0 ≤ (ji3) then (if x3_1.length < 140737488355328 then (trivetref01_low.l0 k1 a0 (x3_1 ++ [(shr .u64 a0 (ji3)) % 256]) (wrap64 (x4_1 + 1))) else (none)) else (none)) = some r := by first | (rw [hji3] at H; exact H) | (simp only [hji3] at H ⊢; exact H)
    have hji3w : (IntKind.i64.wrap (8 * x4_1)) = ji3 := (i64_w _).trans hji3
    by_cases c4 : 0 ≤ (ji3)
    ·rw [if_pos c4] at H
     have c4b0 := eq_true c4
     have c4b1 : decide (0 ≤ (ji3)) = true := decide_eq_true c4
     clear c4
     obtain ⟨ji5, hji5⟩ : ∃ j_ : Int, (shr .u64 a0 (ji3)) = j_ := ⟨_, rfl⟩
     replace H : (if x3_1.length < 140737488355328 then (trivetref01_low.l0 k1 a0 (x3_1 ++ [(ji5) % 256]) (wrap64 (x4_1 + 1))) else (none)) = some r := by first | (rw [hji5] at H; exact H) | (simp only [hji5] at H ⊢; exact H)
     have hji5_ : (a0 / 2 ^ min (ji3).toNat 64) = ji5 := hji5
     have hji5z : (ji3) ≤ 64 → (a0 / 2 ^ (ji3).toNat) = ji5 := shr_small hji5
     by_cases c6 : x3_1.length < 140737488355328
     ·rw [if_pos c6] at H
      have LMc6 := Aside0.mk c6
      clear c6
      obtain ⟨y530, hy530⟩ : ∃ y_ : List Int, y_ = (x3_1 ++ [(ji5) % 256]) := ⟨_, rfl⟩
      replace H : (trivetref01_low.l0 k1 a0 y530 (wrap64 (x4_1 + 1))) = some r := by first | (rw [hy530]; with_reducible exact H) | (have H2_ := (Option.bind_some _ _).symm.trans H; rw [hy530]; with_reducible exact H2_) | (have H2_ := (Option.bind_some _ _).symm.trans H; with_reducible exact H2_) | with_reducible exact H | (rw [hy530]; exact H) | exact H
      have Ny530 := Aside0.mk hy530
      clear hy530
      have H' := Aside0.mk H
      clear H
      go_wp2_with (first | ((with_reducible refine gate_builtin (b := .append) (xs := #[.tmp 9, .tmp 15]) rfl ?_); at_builtin; refine Kd.R_append (Kd.int .u8) (w0 := w) w.heap.size rfl (.tmp 9) (.tmp 15) 23 5 (.int .u8 0) 1 rfl Tryz.underlying23 info5 rfl (by decide) (by omega) u3 x3_1 ((ji5) % 256) [.int .u8 ((ji5) % 256)] (fun _ => True) (fun _ => False) rfl rfl ?aP (fun _ hk => hk.elim) ?aF ?aO ?aB ?aS ?aL ?_; (case aP => exact rfl); (case aB => exact (stB HB.out)); (case aF => exact (fun _ _ => trivial)); (case aO => exact (stR HO_3.out)); (case aS => exact (below_size (stB HB.out))); (case aL => have := LMc6.out; omega); intro v531 w7 ho hb hg hat; rw [← Ny530.out] at ho; have n0_ := Aside0.mk (hb); have n1_ := Aside0.mk (ho); clear HB; clear HO_3; have HB := n0_; have HO532 := n1_; clear n0_ n1_; clear ho hb hg hat))
      go_roundg k1
      case measure => have := HK1.out; omega
      case rel => exact ⟨(y530), (wrap64 (x4_1 + 1)), (by first | rfl | (simp; done) | (simp [*]; done)), H', ⟨by have := HK1.out; omega⟩, ⟨stR HO532.out⟩, ⟨stB HB.out⟩⟩
     ·rw [if_neg c6] at H
      exact absurd H (by simp)
    ·rw [if_neg c4] at H
     exact absurd H (by simp)
   ·rw [if_neg c2] at H
    have c2b0 : decide (x4_1 < 8) = false := decide_eq_false c2
    clear c2
    obtain rfl := Option.some.inj H
    go_wp2
    go_ret
    exact ⟨_, by first | rfl | (simp [errW_none, errW_some] <;> rfl) | (simp [*, errW_none, errW_some] <;> rfl), stR HO_3.out, stB HB.out⟩
def trivetref01_Check.l0 : Nat → List Int → Int → Int → Option (Int)
 | 0, _, _, _ => none
 | k + 1, x0, x3, x4 => if x4 < (x0.length : Int) then (if 0 ≤ x4 then (trivetref01_Check.l0 k x0 (IntKind.u64.wrap ((Go.bits .xor .u64 x3 (IntKind.u64.wrap (rd x0 x4))) * 1099511628211)) (wrap64 (x4 + 1))) else (none)) else (some x3)
def trivetref01_Check.f (k : Nat) (l0 : List Int) : Option (Int) := trivetref01_Check.l0 k l0 14695981039346656037 0
theorem trivetref01_Check.mono_l : ∀ k, (∀ y0 y1 y2, LeO (trivetref01_Check.l0 k y0 y1 y2) (trivetref01_Check.l0 (k + 1) y0 y1 y2))
 | 0 => fun _ _ _ r h => by simp [trivetref01_Check.l0] at h
 | k + 1 => by
  have ih0 := trivetref01_Check.mono_l k
  ·intro y0 y1 y2
   unfold trivetref01_Check.l0
   repeat' first
   | (with_reducible exact ih0 _ _ _)
   | (with_reducible exact LeO.refl _)
   | (with_reducible exact LeO.none _)
   | (with_reducible refine LeO.ite ?_ ?_)
   | (with_reducible refine LeO.bind ?_ (fun _ => ?_))
   | exact ih0 _ _ _
   | exact LeO.none _
   | refine LeO.ite ?_ ?_
   | refine LeO.bind ?_ (fun _ => ?_)
theorem trivetref01_Check.mono : ∀ a0 k, LeO (trivetref01_Check.f k a0) (trivetref01_Check.f (k + 1) a0) := by
 intro a0 k
 have ih0 := trivetref01_Check.mono_l k
 unfold trivetref01_Check.f
 repeat' first
   | (with_reducible exact ih0 _ _ _)
   | (with_reducible exact LeO.refl _)
   | (with_reducible exact LeO.none _)
   | (with_reducible refine LeO.ite ?_ ?_)
   | (with_reducible refine LeO.bind ?_ (fun _ => ?_))
   | exact ih0 _ _ _
   | exact LeO.none _
   | refine LeO.ite ?_ ?_
   | refine LeO.bind ?_ (fun _ => ?_)
set_option maxHeartbeats 8000000 in
set_option maxRecDepth 100000 in
theorem trivetref01_Check.calls (k : Nat) (A0 : Option Addr) (c0 : Nat) (l0 : List Int) (r : Int) (w : World) (hr0 : Kd.C (Kd.int .u8) w A0 l0.length l0) (hc0 : l0.length ≤ c0) (h : trivetref01_Check.f k l0 = some r) :
  Calls Tryz.prog 109 #[.slice A0 l0.length c0] w fun e w' => e = .returned (.int .u64 r) ∧ Drawn0 w w' := by
 have HR0 := Aside0.mk hr0
 have HC0 := Aside0.mk hc0
 clear hr0 hc0
 have H : (trivetref01_Check.l0 k l0 14695981039346656037 0) = some r := h
 clear h
 have H' := Aside0.mk H
 clear H
 go_enter Tryz.func109, Tryz.ntmps109
 go_wp2
 go_loopg [3, 4] k (fun kq v3 v4 w' => ∃ (x3_1 : Int) (x4_1 : Int), v3 = .int .u64 x3_1 ∧ v4 = .int .i64 x4_1 ∧ Aside0 (trivetref01_Check.l0 kq l0 x3_1 x4_1 = some r) ∧ Aside0 (kq ≤ k) ∧ Drawn0 w w')
 case atStart => exact ⟨(14695981039346656037), (0), (by first | rfl | (simp; done) | (simp [*]; done)), (by first | rfl | (simp; done) | (simp [*]; done)), H', ⟨Nat.le_refl _⟩, by repeat (first | exact Drawn0.refl _ | apply Drawn0.step)⟩
 case round =>
  clear H'
  try clear c1
  obtain ⟨x3_1, x4_1, rfl, rfl, HA, HK1, ⟨m1, rfl⟩⟩ := hrel
  cases gk with
  | zero => exact absurd HA.out (by simp [trivetref01_Check.l0])
  | succ k1 =>
   have H := HA.out
   clear HA
   simp only [trivetref01_Check.l0] at H
   by_cases c2 : x4_1 < (l0.length : Int)
   ·rw [if_pos c2] at H
    have c2b0 : decide (x4_1 < (l0.length : Int)) = true := decide_eq_true c2
    clear c2
    by_cases c3 : 0 ≤ x4_1
    ·rw [if_pos c3] at H
     have c3b0 : decide (0 ≤ x4_1) = true := decide_eq_true c3
     clear c3
     have H' := Aside0.mk H
     clear H
     have p533 : 0 ≤ (x4_1 : Int) := of_decide_eq_true (by first | (with_reducible assumption) | assumption)
     have q533 : x4_1 < (l0.length : Int) := of_decide_eq_true (by first | (with_reducible assumption) | assumption)
     obtain ⟨ad533, e533, hx533_0⟩ := Kd.at_int HR0.out x4_1 p533 q533
     cases e533
     replace p533 := eq_true p533
     replace q533 := eq_true q533
     go_wp2
     go_roundg k1
     case measure => have := HK1.out; omega
     case rel => exact ⟨(IntKind.u64.wrap ((Go.bits .xor .u64 x3_1 (IntKind.u64.wrap (rd l0 x4_1))) * 1099511628211)), (wrap64 (x4_1 + 1)), (by first | rfl | (simp; done) | (simp [*]; done)), (by first | rfl | (simp; done) | (simp [*]; done)), H', ⟨by have := HK1.out; omega⟩, by repeat (first | exact Drawn0.refl _ | apply Drawn0.step)⟩
    ·rw [if_neg c3] at H
     exact absurd H (by simp)
   ·rw [if_neg c2] at H
    have c2b0 : decide (x4_1 < (l0.length : Int)) = false := decide_eq_false c2
    clear c2
    obtain rfl := Option.some.inj H
    go_wp2
    go_ret
    exact ⟨by first | rfl | (simp; done) | (simp [*]; done), by repeat (first | exact Drawn0.refl _ | apply Drawn0.step)⟩
end Go.Proofs.YtgiefblcckikeaaGreat.G
end

section
-- Written by a program of this session's (wip/gprint.py over the kit's printer).
namespace Go.Proofs.YtgiefblcckikeaaGreat.G
open Go.RowKit Go.Proofs.YtgiefblcckikeaaGreatW.PrintWords Go.Proofs.YtgiefblcckikeaaGreatW.PrintLast Go.Proofs.YtgiefblcckikeaaGreatW.PrintMore
attribute [local go_sem] max2_int min2_int max_two min_two max_three min_three max_four min_four   -- for this text's walks alone
def trivetref01_TakeBlob.f (l0 : List Int) : Option (List Int × Int × Int) := (trivetref01_TakeNum.f l0).bind fun bt555 => (if bt555.2.2 = 0 then (if bt555.1 < 0 then (some (([] : List Int), 0, 11)) else (if bt555.1 > (wrap64 ((l0.length : Int) - bt555.2.1)) then (some (([] : List Int), 0, 10)) else (if 0 ≤ bt555.2.1 then (if bt555.2.1 ≤ (wrap64 (bt555.2.1 + bt555.1)) then (if (wrap64 (bt555.2.1 + bt555.1)) ≤ (l0.length : Int) then (if ([] : List Int).length + ((l0.take ((wrap64 (bt555.2.1 + bt555.1)) : Int).toNat).drop (bt555.2.1 : Int).toNat).length < 140737488355328 then (some ((([] : List Int) ++ ((l0.take ((wrap64 (bt555.2.1 + bt555.1)) : Int).toNat).drop (bt555.2.1 : Int).toNat)), wrap64 (bt555.2.1 + bt555.1), 0)) else (none)) else (none)) else (none)) else (none)))) else (some (([] : List Int), 0, bt555.2.2)))
set_option maxHeartbeats 8000000 in
set_option maxRecDepth 100000 in
theorem trivetref01_TakeBlob.calls (A0 : Option Addr) (c0 : Nat) (l0 : List Int) (r1 : List Int) (r2 : Int) (r3 : Int) (w : World) (hr0 : Kd.C (Kd.int .u8) w A0 l0.length l0) (hc0 : l0.length ≤ c0) (h : trivetref01_TakeBlob.f l0 = some (r1, r2, r3)) :
  Calls Tryz.prog 169 #[.slice A0 l0.length c0] w fun e w' => ∃ v0_ : Value, e = .returned (.tuple #[v0_, .int .i64 r2, .int .i64 r3]) ∧ Kd.R (Kd.int .u8) 5 w' w.heap.size (fun _ => True) v0_ r1 ∧ Below w.heap.size w w' := by
 have HR0 := Aside0.mk hr0
 have HC0 := Aside0.mk hc0
 clear hr0 hc0
 have HB := Aside0.mk (Below.refl w.heap.size w)
 have H : ((trivetref01_TakeNum.f l0).bind fun bt555 => (if bt555.2.2 = 0 then (if bt555.1 < 0 then (some (([] : List Int), 0, 11)) else (if bt555.1 > (wrap64 ((l0.length : Int) - bt555.2.1)) then (some (([] : List Int), 0, 10)) else (if 0 ≤ bt555.2.1 then (if bt555.2.1 ≤ (wrap64 (bt555.2.1 + bt555.1)) then (if (wrap64 (bt555.2.1 + bt555.1)) ≤ (l0.length : Int) then (if ([] : List Int).length + ((l0.take ((wrap64 (bt555.2.1 + bt555.1)) : Int).toNat).drop (bt555.2.1 : Int).toNat).length < 140737488355328 then (some ((([] : List Int) ++ ((l0.take ((wrap64 (bt555.2.1 + bt555.1)) : Int).toNat).drop (bt555.2.1 : Int).toNat)), wrap64 (bt555.2.1 + bt555.1), 0)) else (none)) else (none)) else (none)) else (none)))) else (some (([] : List Int), 0, bt555.2.2)))) = some (r1, r2, r3) := h
 clear h
 replace H := Option.bind_eq_some_iff.mp H
 obtain ⟨⟨t555, t556, t557⟩, A20, H⟩ := H
 replace H : (if t557 = 0 then (if t555 < 0 then (some (([] : List Int), 0, 11)) else (if t555 > (wrap64 ((l0.length : Int) - t556)) then (some (([] : List Int), 0, 10)) else (if 0 ≤ t556 then (if t556 ≤ (wrap64 (t556 + t555)) then (if (wrap64 (t556 + t555)) ≤ (l0.length : Int) then (if ([] : List Int).length + ((l0.take ((wrap64 (t556 + t555)) : Int).toNat).drop (t556 : Int).toNat).length < 140737488355328 then (some ((([] : List Int) ++ ((l0.take ((wrap64 (t556 + t555)) : Int).toNat).drop (t556 : Int).toNat)), wrap64 (t556 + t555), 0)) else (none)) else (none)) else (none)) else (none)))) else (some (([] : List Int), 0, t557))) = some (r1, r2, r3) := H
 have A2 := Aside0.mk A20
 clear A20
 by_cases c3 : t557 = 0
 ·rw [if_pos c3] at H
  have c3b0 : (t557 == 0) = true := beq_iff_eq.mpr c3
  have c3b1 : (t557 != 0) = false := bne_eq_false_iff_eq.mpr c3
  clear c3
  by_cases c4 : t555 < 0
  ·rw [if_pos c4] at H
   have c4b0 : decide (t555 < 0) = true := decide_eq_true c4
   clear c4
   simp only [Option.some.injEq, Prod.mk.injEq] at H
   obtain ⟨rfl, rfl, rfl⟩ := H
   go_enter Tryz.func169, Tryz.ntmps169
   go_wp2_with (first | ((with_reducible refine gate_callee (f := 129) rfl ?_); refine goesL_ (some 11) rfl rfl Tryz.func129 (by kernel_rfl) rfl #[.slice A0 l0.length c0] rfl (by (try simp only [List.map_toArray, List.map_cons, List.map_nil]); first | done | rfl | (simp only [List.length_drop, List.length_take]; rfl)) ?_; (with_reducible refine (trivetref01_TakeNum.calls _ _ l0 t555 t556 t557 _ ?side1 ?side2 A2.out).mono ?_); (case side1 => exact stC HR0.out); (case side2 => exact HC0.out); rintro e w5 ⟨rfl, hb⟩; refine ⟨_, rfl, ?_⟩; have n0_ := Aside0.mk (below_step (stB HB.out) hb); clear HB; have HB := n0_; clear n0_; (try clear hb); (try clear hb2); (try clear hk); (try clear hi)))
   go_ret3
   exact ⟨_, by first | rfl | (simp [errW_none, errW_some] <;> rfl) | (simp [*, errW_none, errW_some] <;> rfl), by first | exact Kd.R_nil _ _ _ _ _ | exact Kd.N_nil _ _ _ _ _ | exact Kd.V_nil _ _ _ _ _ | exact Kd.Q_nil _ _ _ _ _ | exact Kd.S_nil _ _ _ _ _, stB HB.out⟩
  ·rw [if_neg c4] at H
   have c4b0 : decide (t555 < 0) = false := decide_eq_false c4
   clear c4
   by_cases c6 : t555 > (wrap64 ((l0.length : Int) - t556))
   ·rw [if_pos c6] at H
    have c6b0 : decide ((wrap64 ((l0.length : Int) - t556)) < t555) = true := decide_eq_true c6
    clear c6
    simp only [Option.some.injEq, Prod.mk.injEq] at H
    obtain ⟨rfl, rfl, rfl⟩ := H
    go_enter Tryz.func169, Tryz.ntmps169
    go_wp2_with (first | ((with_reducible refine gate_callee (f := 129) rfl ?_); refine goesL_ (some 11) rfl rfl Tryz.func129 (by kernel_rfl) rfl #[.slice A0 l0.length c0] rfl (by (try simp only [List.map_toArray, List.map_cons, List.map_nil]); first | done | rfl | (simp only [List.length_drop, List.length_take]; rfl)) ?_; (with_reducible refine (trivetref01_TakeNum.calls _ _ l0 t555 t556 t557 _ ?side1 ?side2 A2.out).mono ?_); (case side1 => exact stC HR0.out); (case side2 => exact HC0.out); rintro e w7 ⟨rfl, hb⟩; refine ⟨_, rfl, ?_⟩; have n0_ := Aside0.mk (below_step (stB HB.out) hb); clear HB; have HB := n0_; clear n0_; (try clear hb); (try clear hb2); (try clear hk); (try clear hi)))
    go_ret3
    exact ⟨_, by first | rfl | (simp [errW_none, errW_some] <;> rfl) | (simp [*, errW_none, errW_some] <;> rfl), by first | exact Kd.R_nil _ _ _ _ _ | exact Kd.N_nil _ _ _ _ _ | exact Kd.V_nil _ _ _ _ _ | exact Kd.Q_nil _ _ _ _ _ | exact Kd.S_nil _ _ _ _ _, stB HB.out⟩
   ·rw [if_neg c6] at H
    have c6b0 : decide ((wrap64 ((l0.length : Int) - t556)) < t555) = false := decide_eq_false c6
    clear c6
    by_cases c8 : 0 ≤ t556
    ·rw [if_pos c8] at H
     have c8b0 := eq_true c8
     have c8b1 : decide (0 ≤ t556) = true := decide_eq_true c8
     clear c8
     by_cases c9 : t556 ≤ (wrap64 (t556 + t555))
     ·rw [if_pos c9] at H
      have c9b0 := eq_true c9
      have c9b1 : decide (t556 ≤ (wrap64 (t556 + t555))) = true := decide_eq_true c9
      by_cases c10 : (wrap64 (t556 + t555)) ≤ (l0.length : Int)
      ·rw [if_pos c10] at H
       have c10b0 := eq_true c10
       have c10b1 : decide ((wrap64 (t556 + t555)) ≤ (l0.length : Int)) = true := decide_eq_true c10
       by_cases c11 : ([] : List Int).length + ((l0.take ((wrap64 (t556 + t555)) : Int).toNat).drop (t556 : Int).toNat).length < 140737488355328
       ·rw [if_pos c11] at H
        have LMc11 := Aside0.mk c11
        clear c11
        obtain ⟨y559, hy559⟩ : ∃ y_ : List Int, y_ = (([] : List Int) ++ ((l0.take ((wrap64 (t556 + t555)) : Int).toNat).drop (t556 : Int).toNat)) := ⟨_, rfl⟩
        replace H : (some (y559, wrap64 (t556 + t555), 0)) = some (r1, r2, r3) := by first | (rw [hy559]; with_reducible exact H) | (have H2_ := (Option.bind_some _ _).symm.trans H; rw [hy559]; with_reducible exact H2_) | (have H2_ := (Option.bind_some _ _).symm.trans H; with_reducible exact H2_) | with_reducible exact H | (rw [hy559]; exact H) | exact H
        have Ny559 := Aside0.mk hy559
        clear hy559
        simp only [Option.some.injEq, Prod.mk.injEq] at H
        obtain ⟨rfl, rfl, rfl⟩ := H
        go_enter Tryz.func169, Tryz.ntmps169
        go_wp2_with (first | ((with_reducible refine gate_callee (f := 129) rfl ?_); refine goesL_ (some 11) rfl rfl Tryz.func129 (by kernel_rfl) rfl #[.slice A0 l0.length c0] rfl (by (try simp only [List.map_toArray, List.map_cons, List.map_nil]); first | done | rfl | (simp only [List.length_drop, List.length_take]; rfl)) ?_; (with_reducible refine (trivetref01_TakeNum.calls _ _ l0 t555 t556 t557 _ ?side1 ?side2 A2.out).mono ?_); (case side1 => exact stC HR0.out); (case side2 => exact HC0.out); rintro e w12 ⟨rfl, hb⟩; refine ⟨_, rfl, ?_⟩; have n0_ := Aside0.mk (below_step (stB HB.out) hb); clear HB; have HB := n0_; clear n0_; (try clear hb); (try clear hb2); (try clear hk); (try clear hi); obtain ⟨i013, hi013, _, hsz13, _⟩ := info_parts info5; obtain ⟨A13, hcut13, hA13, hC13⟩ := print_mid_of (P := Tryz.prog) (Value.int .u8) 0 23 5 .i64 .i64 Tryz.underlying23 hi013 hsz13 A0 c0 l0 t556 (wrap64 (t556 + t555)) (of_decide_eq_true (by first | (with_reducible assumption) | assumption)) (by first | omega | exact of_decide_eq_true (by first | (with_reducible assumption) | assumption)) (of_decide_eq_true (by first | (with_reducible assumption) | assumption)) HC0.out; have HR558 := Aside0.mk (Kd.C_of_reads (h1 := fun _ => rfl) (hA13 _ (Kd.reads_of_C HR0.out))); have HC558 := Aside0.mk hC13; clear hA13 hC13 hi013 hsz13) | ((with_reducible refine gate_builtin (b := .append) (xs := #[.tmp 26, .tmp 32]) rfl ?_); at_builtin; refine Kd.R_append_rows (Kd.int .u8) (w0 := w) w.heap.size rfl (.tmp 26) (.tmp 32) 23 5 (.int .u8 0) 1 rfl Tryz.underlying23 info5 rfl (by decide) (by omega) (.slice none 0 0) ([] : List Int) ((l0.take ((wrap64 (t556 + t555)) : Int).toNat).drop (t556 : Int).toNat) _ _ _ (fun _ => True) (fun _ => False) rfl rfl ?aO ?aR (fun _ _ h => h) (fun _ h => h.elim) ?aF ?aB ?aS ?aL ?_; (case aR => first | (rw [← show ((l0.take ((wrap64 (t556 + t555)) : Int).toNat).drop (t556 : Int).toNat).length = ((wrap64 (t556 + t555)).toNat - t556.toNat) from (by rw [List.length_drop, List.length_take]; have h_ : ((wrap64 (t556 + t555)) : Int) ≤ (l0.length : Int) := of_decide_eq_true (by first | (with_reducible assumption) | assumption); omega)]; exact stC (Kd.C_below HR558.out HB.out)) | (exact stC (Kd.C_below HR558.out HB.out))); (case aB => exact (stB HB.out)); (case aF => exact (fun _ _ => trivial)); (case aO => exact ((Kd.R_nil _ _ _ _ (fun _ => True)))); (case aS => exact (below_size (stB HB.out))); (case aL => have := LMc11.out; have hlx_ := (show ((l0.take ((wrap64 (t556 + t555)) : Int).toNat).drop (t556 : Int).toNat).length = ((wrap64 (t556 + t555)).toNat - t556.toNat) from (by rw [List.length_drop, List.length_take]; have h_ : ((wrap64 (t556 + t555)) : Int) ≤ (l0.length : Int) := of_decide_eq_true (by first | (with_reducible assumption) | assumption); omega)); omega); intro v560 w14 ho hb hg hat; rw [← Ny559.out] at ho; have n0_ := Aside0.mk (hb); have n1_ := Aside0.mk (ho); clear HB; have HB := n0_; have HO561 := n1_; clear n0_ n1_; clear ho hb hg hat))
        go_ret3
        exact ⟨_, by first | rfl | (simp [errW_none, errW_some] <;> rfl) | (simp [*, errW_none, errW_some] <;> rfl), stR HO561.out, stB HB.out⟩
       ·rw [if_neg c11] at H
        exact absurd H (by simp)
      ·rw [if_neg c10] at H
       exact absurd H (by simp)
     ·rw [if_neg c9] at H
      exact absurd H (by simp)
    ·rw [if_neg c8] at H
     exact absurd H (by simp)
 ·rw [if_neg c3] at H
  have c3b0 : (t557 == 0) = false := beq_eq_false_iff_ne.mpr c3
  have c3b1 : (t557 != 0) = true := bne_iff_ne.mpr c3
  simp only [Option.some.injEq, Prod.mk.injEq] at H
  obtain ⟨rfl, rfl, rfl⟩ := H
  go_enter Tryz.func169, Tryz.ntmps169
  go_wp2_with (first | ((with_reducible refine gate_callee (f := 129) rfl ?_); refine goesL_ (some 11) rfl rfl Tryz.func129 (by kernel_rfl) rfl #[.slice A0 l0.length c0] rfl (by (try simp only [List.map_toArray, List.map_cons, List.map_nil]); first | done | rfl | (simp only [List.length_drop, List.length_take]; rfl)) ?_; (with_reducible refine (trivetref01_TakeNum.calls _ _ l0 t555 t556 t557 _ ?side1 ?side2 A2.out).mono ?_); (case side1 => exact stC HR0.out); (case side2 => exact HC0.out); rintro e w15 ⟨rfl, hb⟩; refine ⟨_, rfl, ?_⟩; have n0_ := Aside0.mk (below_step (stB HB.out) hb); clear HB; have HB := n0_; clear n0_; (try clear hb); (try clear hb2); (try clear hk); (try clear hi)))
  go_ret3
  exact ⟨_, by first | rfl | (simp [errW_none, errW_some] <;> rfl) | (simp [*, errW_none, errW_some] <;> rfl), by first | exact Kd.R_nil _ _ _ _ _ | exact Kd.N_nil _ _ _ _ _ | exact Kd.V_nil _ _ _ _ _ | exact Kd.Q_nil _ _ _ _ _ | exact Kd.S_nil _ _ _ _ _, stB HB.out⟩
end Go.Proofs.YtgiefblcckikeaaGreat.G
end

section
/- The reference's Reader reads numbers and bytes as the eye does. -/
set_option maxRecDepth 100000
attribute [local irreducible] Go.wpStill
namespace Go.Proofs.YtgiefblcckikeaaGreat.M
open Go.RowKit Go.Proofs.YtgiefblcckikeaaGreatW.PrintWords Go.Proofs.YtgiefblcckikeaaGreatW.PrintLast Go.Proofs.YtgiefblcckikeaaGreatW.PrintMore Go.Proofs.YtgiefblcckikeaaGreat.G
def IsRd (B : List Int) (w0 W : World) (x : Nat) (s : EyeS) : Prop := ∃ (A : Option Addr) (c k : Nat), W.heap[x]? = some (.cells #[.slice A B.length c, .int .i64 (k : Int), .int .i64 s.e, .bool s.o] 86) ∧ w0.heap.size ≤ x ∧ B.length ≤ c ∧ Kd.C (Kd.int .u8) w0 A B.length B ∧ k ≤ B.length ∧ B.drop k = s.l ∧ B.length < 140737488355328
theorem IsRd.lt {B : List Int} {w0 W : World} {x : Nat} {s : EyeS} (h : IsRd B w0 W x s) : x < W.heap.size := by
 obtain ⟨A, c, k, h1, _⟩ := h
 exact (Array.getElem?_eq_some_iff.1 h1).1
theorem IsRd.at {B : List Int} {w0 W W' : World} {x : Nat} {s : EyeS} (h : IsRd B w0 W x s) (e : W'.heap[x]? = W.heap[x]?) : IsRd B w0 W' x s := by
 obtain ⟨A, c, k, h1, h2⟩ := h
 exact ⟨A, c, k, e.trans h1, h2⟩
theorem IsRd.below {B : List Int} {w0 W W' : World} {x : Nat} {s : EyeS} (h : IsRd B w0 W x s) (hb : Below W.heap.size W W') : IsRd B w0 W' x s := h.at (hb.block x h.lt)
theorem IsRd.ge {B : List Int} {w0 W : World} {x : Nat} {s : EyeS} (h : IsRd B w0 W x s) : w0.heap.size ≤ x := by
 obtain ⟨A, c, k, h1, h2, _⟩ := h
 exact h2
def RdP (B : List Int) (w0 w : World) (x : Nat) (r : Value) (s' : EyeS) (e : Ending) (w' : World) : Prop := e = .returned r ∧ IsRd B w0 w' x s' ∧ Below w0.heap.size w0 w' ∧ KeepS (fun i => i = x) w w'
theorem rdFail_is {B : List Int} {w0 w : World} {x : Nat} {s : EyeS} (hI : IsRd B w0 w x s) (hB : Below w0.heap.size w0 w) (n : Int) :
  Calls Tryz.prog 119 #[.pointer (some ⟨x, 0, none⟩), .int .i64 n] w fun e w' => RdP B w0 w x (.tuple #[]) (if s.e = 0 then { s with e := n } else s) e w' := by
 have HI := Lib.hid hI; have HB := Lib.hid hB
 obtain ⟨A, c, k, h1, h2, h3⟩ := hI
 have HH := Lib.hid h1; have HGE := Lib.hid h2; have H34 := Lib.hid h3
 have c2 : w.cell? ⟨x, 2, none⟩ = some (.int .i64 s.e) := by simp [World.cell?, h1]
 have z2 : w.frozen? ⟨x, 2, none⟩ = false := by simp [World.frozen?, h1]
 clear h1 h2 h3 hB
 by_cases he : s.e = 0
 ·have hb : (s.e == 0) = true := by rw [he]; rfl
  rw [if_pos he]
  clear he
  go_enter Tryz.func119, Tryz.ntmps119
  go_wp2_with fail
  go_end0
  refine ⟨rfl, ⟨A, c, k, ?_, HGE.out, H34.out⟩, HB.out.setCell (by exact HGE.out) _, (KeepS.refl (fun i => i = x) w).set (p := ⟨x, 2, none⟩) (.inl rfl) _⟩
  have e1 := heap_same w ⟨x, 2, none⟩ (.int .i64 n) HH.out rfl
  simpa using e1
 ·have hb : (s.e == 0) = false := beq_eq_false_iff_ne.2 he
  rw [if_neg he]
  clear he
  go_enter Tryz.func119, Tryz.ntmps119
  go_wp2_with fail
  go_end0
  exact ⟨rfl, HI.out, HB.out, KeepS.refl _ _⟩
theorem takeNum_err {l : List Int} (h : ¬ (takeNum l).2.2 = 0) : (takeNum l).1 = 0 ∧ (takeNum l).2.1 = 0 := by
 unfold takeNum at h ⊢
 by_cases h0 : tkE l = 0
 ·rw [if_pos h0] at h
  exact absurd rfl h
 ·rw [if_neg h0]
  exact ⟨rfl, rfl⟩
set_option maxHeartbeats 1000000 in
theorem rdNum_is {B : List Int} {w0 w : World} {x : Nat} {s : EyeS} (hI : IsRd B w0 w x s) (hB : Below w0.heap.size w0 w) (hok : okS s) :
  Calls Tryz.prog 116 #[.pointer (some ⟨x, 0, none⟩)] w fun e w' => RdP B w0 w x (.int .i64 (eNum s).1) (eNum s).2 e w' := by
 have HI := Lib.hid hI; have HB := Lib.hid hB
 obtain ⟨A, c, k, h1, h2, h3, h4, h5, h6, h7⟩ := hI
 have c0 : w.cell? ⟨x, 0, none⟩ = some (.slice A B.length c) := by simp [World.cell?, h1]
 have c1 : w.cell? ⟨x, 1, none⟩ = some (.int .i64 (k : Int)) := by simp [World.cell?, h1]
 have c2 : w.cell? ⟨x, 2, none⟩ = some (.int .i64 s.e) := by simp [World.cell?, h1]
 have HGE := Lib.hid h2; have H34 := Lib.hid (And.intro h3 h4); have HBL := Lib.hid h7
 by_cases he : s.e = 0
 ·have hb : (s.e != 0) = false := by rw [he]; rfl
  obtain ⟨A', hcut, hC, hc'⟩ := cutE (A := A) (c := c) (l := B) k h5 h3
  rw [h6] at hcut hC hc'
  have HN := Lib.hid (G.trivetref01_TakeNum.calls A' (c - k) s.l (takeNum s.l).1 (takeNum s.l).2.1 (takeNum s.l).2.2 w.drew (Kd.C_drew (Kd.C_below (hC w0 h4) hB)) hc' (by unfold G.trivetref01_TakeNum.f; rw [if_pos hok.1]))
  have HF := Lib.hid (show eNum s = ((takeNum s.l).1, ⟨s.l.drop (takeNum s.l).2.1.toNat, (takeNum s.l).2.2, s.o⟩) by unfold eNum; rw [if_pos he])
  obtain ⟨z0, z1⟩ := takeNum_size s.l
  have hzz := takeNum_err (l := s.l)
  obtain ⟨j, hj⟩ : ∃ j : Nat, (takeNum s.l).2.1 = (j : Int) := ⟨(takeNum s.l).2.1.toNat, by omega⟩
  obtain ⟨n, hn⟩ : ∃ n, (takeNum s.l).1 = n := ⟨_, rfl⟩
  obtain ⟨er, her⟩ : ∃ er, (takeNum s.l).2.2 = er := ⟨_, rfl⟩
  rw [hn, hj, her] at HN HF
  rw [Int.toNat_natCast] at HF
  have hjl : k + j ≤ B.length := by
   have e1 : s.l.length = B.length - k := by rw [← h6, List.length_drop]
   omega
  have hdr : B.drop (k + j) = s.l.drop j := by rw [← h6, List.drop_drop]
  have hwr : wrap64 ((k : Int) + (j : Int)) = ((k + j : Nat) : Int) := by unfold wrap64; omega
  rw [hn, hj, her] at hzz
  have HZZ := Lib.hid hzz; have HJ := Lib.hid (And.intro hjl hdr); have HK := Lib.hid h5; have H6 := Lib.hid h6; have HE := Lib.hid he
  have HHE := Lib.hid h1
  clear hB hok h1 h2 h3 h4 h5 h6 h7 z0 z1 hj hC hc' hn her hzz hjl hdr he
  go_enter Tryz.func116, Tryz.ntmps116
  go_wp2_with fail
  refine start_ (n := 17) (S := fun w' => w'.cell? ⟨x, 0, none⟩ = some (.slice A B.length c) ∧ w'.cell? ⟨x, 1, none⟩ = some (.int .i64 (k : Int))) (ds := []) #[false, false, false, false, false, false, false, false, false, false, false, false, false, false, false, false, false] (by kernel_rfl) rfl rfl ?_ (fun hHeld => ?_)
  rotate_left
  refine pure_ (i := 0) (N := some 12) (v := ?_) (a' := ?_) #[true, false, false, false, false, false, false, false, false, false, false, false, false, false, false, false, false] rfl rfl (by kernel_rfl) (fun _ _ _ h => h) (Or.inl ⟨by rfl, ?_⟩) ?_ ?_
  rotate_left
  ·intro w'
   go_simp
   try with_reducible rfl
  rotate_left
  ·simp only [Act.put, List.setIfInBounds_toArray, List.set_cons_zero, List.set_cons_succ, i64_w, i32_w]
   rfl
  refine pure_ (i := 1) (N := some 13) (v := ?_) (a' := ?_) #[true, true, false, false, false, false, false, false, false, false, false, false, false, false, false, false, false] rfl rfl (by kernel_rfl) (fun _ _ _ h => h) (Or.inl ⟨by rfl, ?_⟩) ?_ ?_
  rotate_left
  ·intro w'
   go_simp
   try with_reducible rfl
  rotate_left
  ·simp only [Act.put, List.setIfInBounds_toArray, List.set_cons_zero, List.set_cons_succ, i64_w, i32_w]
   rfl
  refine pure_ (i := 2) (N := some 14) (v := ?_) (a' := ?_) #[true, true, true, false, false, false, false, false, false, false, false, false, false, false, false, false, false] rfl rfl (by kernel_rfl) (fun _ _ _ h => h) (Or.inl ⟨by rfl, ?_⟩) ?_ ?_
  rotate_left
  ·intro w'
   go_simp
   try with_reducible rfl
  rotate_left
  ·simp only [Act.put, List.setIfInBounds_toArray, List.set_cons_zero, List.set_cons_succ, i64_w, i32_w]
   rfl
  refine take_ (i := 3) (N := some 15) (v := ?_) (a' := ?_) #[true, true, true, true, false, false, false, false, false, false, false, false, false, false, false, false, false] rfl rfl (by kernel_rfl) (fun _ _ _ h => h) (Or.inl ⟨by rfl, ?_⟩) hHeld ?_ ?_
  rotate_left
  ·intro w' hS
   go_simp
   try with_reducible rfl
  rotate_left
  ·simp only [Act.put, List.setIfInBounds_toArray, List.set_cons_zero, List.set_cons_succ, i64_w, i32_w]
   rfl
  refine pure_ (i := 4) (N := some 16) (v := ?_) (a' := ?_) #[true, true, true, true, true, false, false, false, false, false, false, false, false, false, false, false, false] rfl rfl (by kernel_rfl) (fun _ _ _ h => h) (Or.inl ⟨by rfl, ?_⟩) ?_ ?_
  rotate_left
  ·intro w'
   go_simp
   try with_reducible rfl
  rotate_left
  ·simp only [Act.put, List.setIfInBounds_toArray, List.set_cons_zero, List.set_cons_succ, i64_w, i32_w]
   rfl
  refine pure_ (i := 5) (N := some 17) (v := ?_) (a' := ?_) #[true, true, true, true, true, true, false, false, false, false, false, false, false, false, false, false, false] rfl rfl (by kernel_rfl) (fun _ _ _ h => h) (Or.inl ⟨by rfl, ?_⟩) ?_ ?_
  rotate_left
  ·intro w'
   go_simp
   try with_reducible rfl
  rotate_left
  ·simp only [Act.put, List.setIfInBounds_toArray, List.set_cons_zero, List.set_cons_succ, i64_w, i32_w]
   rfl
  refine pure_ (i := 6) (N := some 18) (v := ?_) (a' := ?_) #[true, true, true, true, true, true, true, false, false, false, false, false, false, false, false, false, false] rfl rfl (by kernel_rfl) (fun _ _ _ h => h) (Or.inl ⟨by rfl, ?_⟩) ?_ ?_
  rotate_left
  ·intro w'
   go_simp
   try with_reducible rfl
  rotate_left
  ·simp only [Act.put, List.setIfInBounds_toArray, List.set_cons_zero, List.set_cons_succ, i64_w, i32_w]
   rfl
  refine take_ (i := 7) (N := some 19) (v := ?_) (a' := ?_) #[true, true, true, true, true, true, true, true, false, false, false, false, false, false, false, false, false] rfl rfl (by kernel_rfl) (fun _ _ _ h => h) (Or.inl ⟨by rfl, ?_⟩) hHeld ?_ ?_
  rotate_left
  ·intro w' hS
   go_simp
   try with_reducible rfl
  rotate_left
  ·simp only [Act.put, List.setIfInBounds_toArray, List.set_cons_zero, List.set_cons_succ, i64_w, i32_w]
   rfl
  refine pure_ (i := 8) (N := some 20) (v := ?_) (a' := ?_) #[true, true, true, true, true, true, true, true, true, false, false, false, false, false, false, false, false] rfl rfl (by kernel_rfl) (fun _ _ _ h => h) (Or.inl ⟨by rfl, ?_⟩) ?_ ?_
  rotate_left
  ·intro w'
   go_simp
   try with_reducible rfl
  rotate_left
  ·simp only [Act.put, List.setIfInBounds_toArray, List.set_cons_zero, List.set_cons_succ, i64_w, i32_w]
   rfl
  refine one_ (i := 9) (N := some 21) #[true, true, true, true, true, true, true, true, true, true, false, false, false, false, false, false, false] rfl rfl (by kernel_rfl) (by decide) (fun K hK => ?_)
  go_simp
  refine HN.out.mono ?_
  rintro e w1 ⟨rfl, hb⟩
  have HH1 := Lib.hid ((hb.block x HI.out.lt).trans HHE.out); have HB1 := Lib.hid (HB.out.drew.trans (hb.mono HB.out.size)); have HK1 := Lib.hid (show KeepS (fun i => i = x) w w1 from ((KeepS.refl _ w).drew).then_below hb)
  skip
  clear hb
  refine hK.out _ _ ⟨by simp [World.cell?, HH1.out], by simp [World.cell?, HH1.out]⟩ (fun hHeld => ?_)
  refine pure_ (i := 10) (N := some 11) (v := ?_) (a' := ?_) #[true, true, true, true, true, true, true, true, true, true, true, false, false, false, false, false, false] rfl rfl (by kernel_rfl) (fun _ _ _ h => h) (Or.inl ⟨by rfl, ?_⟩) ?_ ?_
  rotate_left
  ·intro w'
   go_simp
   try with_reducible rfl
  rotate_left
  ·simp only [Act.put, List.setIfInBounds_toArray, List.set_cons_zero, List.set_cons_succ, i64_w, i32_w]
   rfl
  refine pure_ (i := 11) (N := some 22) (v := ?_) (a' := ?_) #[true, true, true, true, true, true, true, true, true, true, true, true, false, false, false, false, false] rfl rfl (by kernel_rfl) (fun _ _ _ h => h) (Or.inl ⟨by rfl, ?_⟩) ?_ ?_
  rotate_left
  ·intro w'
   go_simp
   try with_reducible rfl
  rotate_left
  ·simp only [Act.put, List.setIfInBounds_toArray, List.set_cons_zero, List.set_cons_succ, i64_w, i32_w]
   rfl
  refine pure_ (i := 12) (N := some 23) (v := ?_) (a' := ?_) #[true, true, true, true, true, true, true, true, true, true, true, true, true, false, false, false, false] rfl rfl (by kernel_rfl) (fun _ _ _ h => h) (Or.inl ⟨by rfl, ?_⟩) ?_ ?_
  rotate_left
  ·intro w'
   go_simp
   try with_reducible rfl
  rotate_left
  ·simp only [Act.put, List.setIfInBounds_toArray, List.set_cons_zero, List.set_cons_succ, i64_w, i32_w]
   rfl
  refine pure_ (i := 13) (N := some 24) (v := ?_) (a' := ?_) #[true, true, true, true, true, true, true, true, true, true, true, true, true, true, false, false, false] rfl rfl (by kernel_rfl) (fun _ _ _ h => h) (Or.inl ⟨by rfl, ?_⟩) ?_ ?_
  rotate_left
  ·intro w'
   go_simp
   try with_reducible rfl
  rotate_left
  ·simp only [Act.put, List.setIfInBounds_toArray, List.set_cons_zero, List.set_cons_succ, i64_w, i32_w]
   rfl
  refine pure_ (i := 14) (N := some 3) (v := ?_) (a' := ?_) #[true, true, true, true, true, true, true, true, true, true, true, true, true, true, true, false, false] rfl rfl (by kernel_rfl) (fun _ _ _ h => h) (Or.inl ⟨by rfl, ?_⟩) ?_ ?_
  rotate_left
  ·intro w'
   go_simp
   try with_reducible rfl
  rotate_left
  ·simp only [Act.put, List.setIfInBounds_toArray, List.set_cons_zero, List.set_cons_succ, i64_w, i32_w]
   rfl
  refine pure_ (i := 15) (N := some 4) (v := ?_) (a' := ?_) #[true, true, true, true, true, true, true, true, true, true, true, true, true, true, true, true, false] rfl rfl (by kernel_rfl) (fun _ _ _ h => h) (Or.inl ⟨by rfl, ?_⟩) ?_ ?_
  rotate_left
  ·intro w'
   go_simp
   try with_reducible rfl
  rotate_left
  ·simp only [Act.put, List.setIfInBounds_toArray, List.set_cons_zero, List.set_cons_succ, i64_w, i32_w]
   rfl
  refine pure_ (i := 16) (N := some 5) (v := ?_) (a' := ?_) #[true, true, true, true, true, true, true, true, true, true, true, true, true, true, true, true, true] rfl rfl (by kernel_rfl) (fun _ _ _ h => h) (Or.inl ⟨by rfl, ?_⟩) ?_ ?_
  rotate_left
  ·intro w'
   go_simp
   try with_reducible rfl
  rotate_left
  ·simp only [Act.put, List.setIfInBounds_toArray, List.set_cons_zero, List.set_cons_succ, i64_w, i32_w]
   rfl
  refine done_ (by kernel_rfl) ?_
  by_cases hq : er = 0
  ·have hb2 : (er != 0) = false := by rw [hq]; rfl
   have d1 : w1.cell? ⟨x, 1, none⟩ = some (.int .i64 (k : Int)) := by simp [World.cell?, HH1.out]
   have z1 : w1.frozen? ⟨x, 1, none⟩ = false := by simp [World.frozen?, HH1.out]
   have HQ := Lib.hid hq
   clear hq
   go_wp2_with fail
   go_ret
   refine ⟨by rw [HF.out]; rfl, ?_, HB1.out.setCell (by exact HGE.out) _, HK1.out.set (p := ⟨x, 1, none⟩) (.inl rfl) _⟩
   rw [HF.out, HQ.out]
   refine ⟨A, c, k + j, ?_, HGE.out, H34.out.1, H34.out.2, HJ.out.1, HJ.out.2, HBL.out⟩
   have e1 := heap_same w1 ⟨x, 1, none⟩ (.int .i64 ((k + j : Nat) : Int)) HH1.out rfl
   rw [HE.out] at e1
   simpa using e1
  ·have hb2 : (er != 0) = true := bne_iff_ne.2 hq
   obtain ⟨rfl, hj0⟩ := HZZ.out hq
   have HI1 : IsRd B w0 w1 x s := ⟨A, c, k, HH1.out, HGE.out, H34.out.1, H34.out.2, HK.out, H6.out, HBL.out⟩
   have HFA := Lib.hid (rdFail_is HI1 HB1.out er)
   have HR := Lib.hid (show (eNum s).2 = { s with e := er } by
    rw [HF.out]
    have : j = 0 := by omega
    rw [this, List.drop_zero])
   have HR1 := Lib.hid (show (eNum s).1 = 0 by rw [HF.out])
   have HE2 := Lib.hid (show (if s.e = 0 then { s with e := er } else s) = { s with e := er } from if_pos HE.out)
   clear hq HI1 hj0
   go_wp2_with fail
   refine HFA.out.mono ?_
   rw [HE2.out]
   rintro e w2 ⟨rfl, g1, g2, g3⟩
   have G1 := Lib.hid g1; have G2 := Lib.hid g2; have G3 := Lib.hid (HK1.out.trans g3)
   clear g1 g2 g3
   go_wp2_with fail
   go_ret
   exact ⟨by rw [HR1.out]; rfl, by rw [HR.out]; exact G1.out, G2.out, G3.out⟩
  exact ⟨c0, c1⟩
 ·have hb : (s.e != 0) = true := bne_iff_ne.2 he
  have HF := Lib.hid (show eNum s = (0, s) by unfold eNum; rw [if_neg he])
  clear hB hok h1 h2 h3 h4 he h5 h6 h7
  go_enter Tryz.func116, Tryz.ntmps116
  go_wp2_with fail
  go_ret
  exact ⟨by rw [HF.out]; rfl, by rw [HF.out]; exact HI.out, HB.out, KeepS.refl _ _⟩
theorem rtakeBlob_f {l : List Int} (h : okB l = true) (hl : l.length < 140737488355328) : G.trivetref01_TakeBlob.f l = some (takeBlob l) := by
 have hr : G.trivetref01_TakeNum.f l = some (takeNum l) := by unfold G.trivetref01_TakeNum.f; rw [if_pos h]
 unfold G.trivetref01_TakeBlob.f takeBlob
 rw [hr, Option.bind_some]
 unfold takeNum
 by_cases he : tkE l = 0
 ·obtain ⟨f1, f2⟩ := form_one h he
  have h1 := tkS_pos l
  have h2 := tkE_size he
  unfold isI64 at f2
  rw [if_pos he]
  simp only []
  rw [if_pos trivial]
  by_cases h3 : tkN l < 0
  ·have hb : blE l big62 0 = 11 := by unfold blE; rw [if_neg (by omega), if_pos h3]
   rw [if_pos h3, hb, if_neg (by decide)]
  ·rw [if_neg h3]
   have hw : wrap64 ((l.length : Int) - tkS l) = (l.length : Int) - tkS l := by unfold wrap64; omega
   rw [hw]
   by_cases h4 : (l.length : Int) - tkS l < tkN l
   ·have hb : blE l big62 0 = 10 := by unfold blE big62; rw [if_neg (by omega), if_neg h3, if_neg (by omega), if_pos (by omega)]
    rw [if_pos (by omega), hb, if_neg (by decide)]
   ·have hb : blE l big62 0 = 0 := by unfold blE big62; rw [if_neg (by omega), if_neg h3, if_neg (by omega), if_neg (by omega)]
    have hw2 : wrap64 (tkS l + tkN l) = tkS l + tkN l := by unfold wrap64; omega
    rw [if_neg (by omega), if_pos (by omega), hw2, if_pos (by omega), if_pos (by omega), if_pos (by simp only [List.length_drop, List.length_take]; simp; omega), hb, if_pos rfl]
    rfl
 ·have hb : blE l big62 0 = tkE l := by unfold blE; rw [if_pos he]
  rw [if_neg he]
  simp only []
  rw [if_neg he, hb, if_neg he]
theorem takeBlob_err {l : List Int} (h : ¬ (takeBlob l).2.2 = 0) : (takeBlob l).1 = [] ∧ (takeBlob l).2.1 = 0 := by
 unfold takeBlob at h ⊢
 by_cases h0 : blE l big62 0 = 0
 ·rw [if_pos h0] at h
  exact absurd rfl h
 ·rw [if_neg h0]
  exact ⟨rfl, rfl⟩
def RdD (B : List Int) (w0 w : World) (x : Nat) (l : List Int) (s' : EyeS) (e : Ending) (w' : World) : Prop := ∃ v : Value, e = .returned v ∧ Kd.R (Kd.int .u8) 5 w' w.heap.size (fun k => k ≠ x) v l ∧ IsRd B w0 w' x s' ∧ Below w0.heap.size w0 w' ∧ KeepS (fun i => i = x) w w'
set_option maxHeartbeats 1000000 in
theorem rdData_is {B : List Int} {w0 w : World} {x : Nat} {s : EyeS} (hI : IsRd B w0 w x s) (hB : Below w0.heap.size w0 w) (hok : okS s) :
  Calls Tryz.prog 157 #[.pointer (some ⟨x, 0, none⟩)] w fun e w' => RdD B w0 w x (eData s).1 (eData s).2 e w' := by
 have HI := Lib.hid hI; have HB := Lib.hid hB
 obtain ⟨A, c, k, h1, h2, h3, h4, h5, h6, h7⟩ := hI
 have c0 : w.cell? ⟨x, 0, none⟩ = some (.slice A B.length c) := by simp [World.cell?, h1]
 have c1 : w.cell? ⟨x, 1, none⟩ = some (.int .i64 (k : Int)) := by simp [World.cell?, h1]
 have c2 : w.cell? ⟨x, 2, none⟩ = some (.int .i64 s.e) := by simp [World.cell?, h1]
 have HGE := Lib.hid h2; have H34 := Lib.hid (And.intro h3 h4); have HBL := Lib.hid h7
 by_cases he : s.e = 0
 ·have hb : (s.e != 0) = false := by rw [he]; rfl
  obtain ⟨A', hcut, hC, hc'⟩ := cutE (A := A) (c := c) (l := B) k h5 h3
  rw [h6] at hcut hC hc'
  have HN := Lib.hid (G.trivetref01_TakeBlob.calls A' (c - k) s.l (takeBlob s.l).1 (takeBlob s.l).2.1 (takeBlob s.l).2.2 w.drew (Kd.C_drew (Kd.C_below (hC w0 h4) hB)) hc' (rtakeBlob_f hok.1 hok.2))
  have HF := Lib.hid (show eData s = ((takeBlob s.l).1, ⟨s.l.drop (takeBlob s.l).2.1.toNat, (takeBlob s.l).2.2, s.o⟩) by unfold eData; rw [if_pos he])
  obtain ⟨z0, z1⟩ := takeBlob_size hok.1 hok.2
  have hzz := takeBlob_err (l := s.l)
  obtain ⟨j, hj⟩ : ∃ j : Nat, (takeBlob s.l).2.1 = (j : Int) := ⟨(takeBlob s.l).2.1.toNat, by omega⟩
  obtain ⟨n, hn⟩ : ∃ n, (takeBlob s.l).1 = n := ⟨_, rfl⟩
  obtain ⟨er, her⟩ : ∃ er, (takeBlob s.l).2.2 = er := ⟨_, rfl⟩
  have hnl : n.length < 140737488355328 := by
   rw [← hn]
   unfold takeBlob
   split
   ·unfold blD; simp only [List.length_drop, List.length_take]; have := hok.2; omega
   ·simp
  rw [hn, hj, her] at HN HF
  rw [Int.toNat_natCast] at HF
  have hjl : k + j ≤ B.length := by
   have e1 : s.l.length = B.length - k := by rw [← h6, List.length_drop]
   omega
  have hdr : B.drop (k + j) = s.l.drop j := by rw [← h6, List.drop_drop]
  have hwr : wrap64 ((k : Int) + (j : Int)) = ((k + j : Nat) : Int) := by unfold wrap64; omega
  rw [hn, hj, her] at hzz
  have HZZ := Lib.hid hzz; have HJ := Lib.hid (And.intro hjl hdr); have HK := Lib.hid h5; have H6 := Lib.hid h6; have HE := Lib.hid he; have HNL := Lib.hid hnl
  have HHE := Lib.hid h1
  clear hB hok h1 h2 h3 h4 h5 h6 h7 z0 z1 hj hC hc' hn her hzz hjl hdr he hnl
  go_enter Tryz.func157, Tryz.ntmps157
  go_wp2_with fail
  refine start_ (n := 17) (S := fun w' => w'.cell? ⟨x, 0, none⟩ = some (.slice A B.length c) ∧ w'.cell? ⟨x, 1, none⟩ = some (.int .i64 (k : Int))) (ds := []) #[false, false, false, false, false, false, false, false, false, false, false, false, false, false, false, false, false] (by kernel_rfl) rfl rfl ?_ (fun hHeld => ?_)
  rotate_left
  refine pure_ (i := 0) (N := some 12) (v := ?_) (a' := ?_) #[true, false, false, false, false, false, false, false, false, false, false, false, false, false, false, false, false] rfl rfl (by kernel_rfl) (fun _ _ _ h => h) (Or.inl ⟨by rfl, ?_⟩) ?_ ?_
  rotate_left
  ·intro w'
   go_simp
   try with_reducible rfl
  rotate_left
  ·simp only [Act.put, List.setIfInBounds_toArray, List.set_cons_zero, List.set_cons_succ, i64_w, i32_w]
   rfl
  refine pure_ (i := 1) (N := some 13) (v := ?_) (a' := ?_) #[true, true, false, false, false, false, false, false, false, false, false, false, false, false, false, false, false] rfl rfl (by kernel_rfl) (fun _ _ _ h => h) (Or.inl ⟨by rfl, ?_⟩) ?_ ?_
  rotate_left
  ·intro w'
   go_simp
   try with_reducible rfl
  rotate_left
  ·simp only [Act.put, List.setIfInBounds_toArray, List.set_cons_zero, List.set_cons_succ, i64_w, i32_w]
   rfl
  refine pure_ (i := 2) (N := some 14) (v := ?_) (a' := ?_) #[true, true, true, false, false, false, false, false, false, false, false, false, false, false, false, false, false] rfl rfl (by kernel_rfl) (fun _ _ _ h => h) (Or.inl ⟨by rfl, ?_⟩) ?_ ?_
  rotate_left
  ·intro w'
   go_simp
   try with_reducible rfl
  rotate_left
  ·simp only [Act.put, List.setIfInBounds_toArray, List.set_cons_zero, List.set_cons_succ, i64_w, i32_w]
   rfl
  refine take_ (i := 3) (N := some 15) (v := ?_) (a' := ?_) #[true, true, true, true, false, false, false, false, false, false, false, false, false, false, false, false, false] rfl rfl (by kernel_rfl) (fun _ _ _ h => h) (Or.inl ⟨by rfl, ?_⟩) hHeld ?_ ?_
  rotate_left
  ·intro w' hS
   go_simp
   try with_reducible rfl
  rotate_left
  ·simp only [Act.put, List.setIfInBounds_toArray, List.set_cons_zero, List.set_cons_succ, i64_w, i32_w]
   rfl
  refine pure_ (i := 4) (N := some 16) (v := ?_) (a' := ?_) #[true, true, true, true, true, false, false, false, false, false, false, false, false, false, false, false, false] rfl rfl (by kernel_rfl) (fun _ _ _ h => h) (Or.inl ⟨by rfl, ?_⟩) ?_ ?_
  rotate_left
  ·intro w'
   go_simp
   try with_reducible rfl
  rotate_left
  ·simp only [Act.put, List.setIfInBounds_toArray, List.set_cons_zero, List.set_cons_succ, i64_w, i32_w]
   rfl
  refine pure_ (i := 5) (N := some 17) (v := ?_) (a' := ?_) #[true, true, true, true, true, true, false, false, false, false, false, false, false, false, false, false, false] rfl rfl (by kernel_rfl) (fun _ _ _ h => h) (Or.inl ⟨by rfl, ?_⟩) ?_ ?_
  rotate_left
  ·intro w'
   go_simp
   try with_reducible rfl
  rotate_left
  ·simp only [Act.put, List.setIfInBounds_toArray, List.set_cons_zero, List.set_cons_succ, i64_w, i32_w]
   rfl
  refine pure_ (i := 6) (N := some 18) (v := ?_) (a' := ?_) #[true, true, true, true, true, true, true, false, false, false, false, false, false, false, false, false, false] rfl rfl (by kernel_rfl) (fun _ _ _ h => h) (Or.inl ⟨by rfl, ?_⟩) ?_ ?_
  rotate_left
  ·intro w'
   go_simp
   try with_reducible rfl
  rotate_left
  ·simp only [Act.put, List.setIfInBounds_toArray, List.set_cons_zero, List.set_cons_succ, i64_w, i32_w]
   rfl
  refine take_ (i := 7) (N := some 19) (v := ?_) (a' := ?_) #[true, true, true, true, true, true, true, true, false, false, false, false, false, false, false, false, false] rfl rfl (by kernel_rfl) (fun _ _ _ h => h) (Or.inl ⟨by rfl, ?_⟩) hHeld ?_ ?_
  rotate_left
  ·intro w' hS
   go_simp
   try with_reducible rfl
  rotate_left
  ·simp only [Act.put, List.setIfInBounds_toArray, List.set_cons_zero, List.set_cons_succ, i64_w, i32_w]
   rfl
  refine pure_ (i := 8) (N := some 20) (v := ?_) (a' := ?_) #[true, true, true, true, true, true, true, true, true, false, false, false, false, false, false, false, false] rfl rfl (by kernel_rfl) (fun _ _ _ h => h) (Or.inl ⟨by rfl, ?_⟩) ?_ ?_
  rotate_left
  ·intro w'
   go_simp
   try with_reducible rfl
  rotate_left
  ·simp only [Act.put, List.setIfInBounds_toArray, List.set_cons_zero, List.set_cons_succ, i64_w, i32_w]
   rfl
  refine one_ (i := 9) (N := some 21) #[true, true, true, true, true, true, true, true, true, true, false, false, false, false, false, false, false] rfl rfl (by kernel_rfl) (by decide) (fun K hK => ?_)
  go_simp
  refine HN.out.mono ?_
  rintro e w1 ⟨v, rfl, hv, hb⟩
  have HH1 := Lib.hid ((hb.block x HI.out.lt).trans HHE.out); have HB1 := Lib.hid (HB.out.drew.trans (hb.mono HB.out.size)); have HK1 := Lib.hid (show KeepS (fun i => i = x) w w1 from ((KeepS.refl _ w).drew).then_below hb)
  obtain ⟨V, cv, rfl⟩ := Kd.R_slice hv; have HV := Lib.hid hv; clear hv
  clear hb
  refine hK.out _ _ ⟨by simp [World.cell?, HH1.out], by simp [World.cell?, HH1.out]⟩ (fun hHeld => ?_)
  refine pure_ (i := 10) (N := some 11) (v := ?_) (a' := ?_) #[true, true, true, true, true, true, true, true, true, true, true, false, false, false, false, false, false] rfl rfl (by kernel_rfl) (fun _ _ _ h => h) (Or.inl ⟨by rfl, ?_⟩) ?_ ?_
  rotate_left
  ·intro w'
   go_simp
   try with_reducible rfl
  rotate_left
  ·simp only [Act.put, List.setIfInBounds_toArray, List.set_cons_zero, List.set_cons_succ, i64_w, i32_w]
   rfl
  refine pure_ (i := 11) (N := some 22) (v := ?_) (a' := ?_) #[true, true, true, true, true, true, true, true, true, true, true, true, false, false, false, false, false] rfl rfl (by kernel_rfl) (fun _ _ _ h => h) (Or.inl ⟨by rfl, ?_⟩) ?_ ?_
  rotate_left
  ·intro w'
   go_simp
   try with_reducible rfl
  rotate_left
  ·simp only [Act.put, List.setIfInBounds_toArray, List.set_cons_zero, List.set_cons_succ, i64_w, i32_w]
   rfl
  refine pure_ (i := 12) (N := some 23) (v := ?_) (a' := ?_) #[true, true, true, true, true, true, true, true, true, true, true, true, true, false, false, false, false] rfl rfl (by kernel_rfl) (fun _ _ _ h => h) (Or.inl ⟨by rfl, ?_⟩) ?_ ?_
  rotate_left
  ·intro w'
   go_simp
   try with_reducible rfl
  rotate_left
  ·simp only [Act.put, List.setIfInBounds_toArray, List.set_cons_zero, List.set_cons_succ, i64_w, i32_w]
   rfl
  refine pure_ (i := 13) (N := some 24) (v := ?_) (a' := ?_) #[true, true, true, true, true, true, true, true, true, true, true, true, true, true, false, false, false] rfl rfl (by kernel_rfl) (fun _ _ _ h => h) (Or.inl ⟨by rfl, ?_⟩) ?_ ?_
  rotate_left
  ·intro w'
   go_simp
   try with_reducible rfl
  rotate_left
  ·simp only [Act.put, List.setIfInBounds_toArray, List.set_cons_zero, List.set_cons_succ, i64_w, i32_w]
   rfl
  refine pure_ (i := 14) (N := some 3) (v := ?_) (a' := ?_) #[true, true, true, true, true, true, true, true, true, true, true, true, true, true, true, false, false] rfl rfl (by kernel_rfl) (fun _ _ _ h => h) (Or.inl ⟨by rfl, ?_⟩) ?_ ?_
  rotate_left
  ·intro w'
   go_simp
   try with_reducible rfl
  rotate_left
  ·simp only [Act.put, List.setIfInBounds_toArray, List.set_cons_zero, List.set_cons_succ, i64_w, i32_w]
   rfl
  refine pure_ (i := 15) (N := some 4) (v := ?_) (a' := ?_) #[true, true, true, true, true, true, true, true, true, true, true, true, true, true, true, true, false] rfl rfl (by kernel_rfl) (fun _ _ _ h => h) (Or.inl ⟨by rfl, ?_⟩) ?_ ?_
  rotate_left
  ·intro w'
   go_simp
   try with_reducible rfl
  rotate_left
  ·simp only [Act.put, List.setIfInBounds_toArray, List.set_cons_zero, List.set_cons_succ, i64_w, i32_w]
   rfl
  refine pure_ (i := 16) (N := some 5) (v := ?_) (a' := ?_) #[true, true, true, true, true, true, true, true, true, true, true, true, true, true, true, true, true] rfl rfl (by kernel_rfl) (fun _ _ _ h => h) (Or.inl ⟨by rfl, ?_⟩) ?_ ?_
  rotate_left
  ·intro w'
   go_simp
   try with_reducible rfl
  rotate_left
  ·simp only [Act.put, List.setIfInBounds_toArray, List.set_cons_zero, List.set_cons_succ, i64_w, i32_w]
   rfl
  refine done_ (by kernel_rfl) ?_
  by_cases hq : er = 0
  ·have hb2 : (er != 0) = false := by rw [hq]; rfl
   have d1 : w1.cell? ⟨x, 1, none⟩ = some (.int .i64 (k : Int)) := by simp [World.cell?, HH1.out]
   have z1 : w1.frozen? ⟨x, 1, none⟩ = false := by simp [World.frozen?, HH1.out]
   have HQ := Lib.hid hq
   have HV2 := Lib.hid (Kd.R_far (p := ⟨x, 1, none⟩) (Kd.R_mono (ok' := fun k => k ≠ x) (Kd.R_bound HV.out) (fun k hk => by have h7 : w.heap.size ≤ k := hk.2.1; have := HI.out.lt; omega)) (fun _ hk => hk) (.int .i64 ((k + j : Nat) : Int)))
   have HB2 := Lib.hid (HB1.out.setCell (p := ⟨x, 1, none⟩) (by exact HGE.out) (.int .i64 ((k + j : Nat) : Int)))
   have HK2 := Lib.hid (HK1.out.set (p := ⟨x, 1, none⟩) (.inl rfl) (.int .i64 ((k + j : Nat) : Int)))
   have e1 := heap_same w1 ⟨x, 1, none⟩ (.int .i64 ((k + j : Nat) : Int)) HH1.out rfl
   have HX2 := Lib.hid e1
   have HLX := Lib.hid (show x < w.heap.size ∧ w0.heap.size ≤ w.heap.size from ⟨HI.out.lt, HB.out.size⟩)
   clear hq e1
   go_wp2_with ((with_reducible refine gate_builtin (b := .append) (xs := #[.const (.slice none 0 0), .tmp 38]) rfl ?_); at_builtin; refine Kd.R_append_rows (Kd.int .u8) (w0 := w1.setCell ⟨x, 1, none⟩ (.int .i64 ((k + j : Nat) : Int))) w.heap.size rfl (.const (.slice none 0 0)) (.tmp 38) 23 5 (.int .u8 0) 1 rfl Tryz.underlying23 infoU8 rfl (by decide) (by omega) _ ([] : List Int) n _ _ _ (fun _ => True) (fun _ => False) rfl rfl (Kd.R_nil _ _ _ _ _) (Kd.R_reads' HV2.out).2.2 (fun _ _ h => h) (fun _ h => h.elim) (fun _ _ => trivial) (Below.refl _ _) HK2.out.size (by have := HNL.out; simp; omega) ?_; intro v1 w3 ho hb3 _ _; obtain ⟨A9, c9, rfl⟩ := Kd.R_slice ho; have HO := Lib.hid ho; have HB3 := Lib.hid hb3; clear ho hb3)
   go_ret
   refine ⟨_, rfl, ?_, ?_, HB2.out.trans (HB3.out.mono HLX.out.2), HK2.out.then_base HB3.out⟩
   ·rw [HF.out]
    exact Kd.R_mono (Kd.R_bound HO.out) (fun k hk => by have h7 := hk.2.1; have := HLX.out.1; omega)
   ·rw [HF.out, HQ.out]
    refine ⟨A, c, k + j, ?_, HGE.out, H34.out.1, H34.out.2, HJ.out.1, HJ.out.2, HBL.out⟩
    have e2 := (HB3.out.block x HLX.out.1).trans HX2.out
    rw [HE.out] at e2
    simpa using e2
  ·have hb2 : (er != 0) = true := bne_iff_ne.2 hq
   obtain ⟨rfl, hj0⟩ := HZZ.out hq
   have HI1 : IsRd B w0 w1 x s := ⟨A, c, k, HH1.out, HGE.out, H34.out.1, H34.out.2, HK.out, H6.out, HBL.out⟩
   have HFA := Lib.hid (rdFail_is HI1 HB1.out er)
   have HR := Lib.hid (show (eData s).2 = { s with e := er } by
    rw [HF.out]
    have : j = 0 := by omega
    rw [this, List.drop_zero])
   have HR1 := Lib.hid (show (eData s).1 = [] by rw [HF.out])
   have HE2 := Lib.hid (show (if s.e = 0 then { s with e := er } else s) = { s with e := er } from if_pos HE.out)
   clear hq HI1 hj0
   go_wp2_with fail
   refine HFA.out.mono ?_
   rw [HE2.out]
   rintro e w2 ⟨rfl, g1, g2, g3⟩
   have G1 := Lib.hid g1; have G2 := Lib.hid g2; have G3 := Lib.hid (HK1.out.trans g3)
   clear g1 g2 g3
   go_wp2_with fail
   go_ret
   exact ⟨.slice none 0 0, rfl, by rw [HR1.out]; exact Kd.R_nil _ _ _ _ _, by rw [HR.out]; exact G1.out, G2.out, G3.out⟩
  exact ⟨c0, c1⟩
 ·have hb : (s.e != 0) = true := bne_iff_ne.2 he
  have HF := Lib.hid (show eData s = ([], s) by unfold eData; rw [if_neg he])
  clear hB hok h1 h2 h3 h4 he h5 h6 h7
  go_enter Tryz.func157, Tryz.ntmps157
  go_wp2_with fail
  go_ret
  exact ⟨.slice none 0 0, rfl, by rw [HF.out]; exact Kd.R_nil _ _ _ _ _, by rw [HF.out]; exact HI.out, HB.out, KeepS.refl _ _⟩
end Go.Proofs.YtgiefblcckikeaaGreat.M
end

section
/- The reference's Reader: the length of a list. -/
set_option maxRecDepth 100000
attribute [local irreducible] Go.wpStill
namespace Go.Proofs.YtgiefblcckikeaaGreat.M
open Go.RowKit Go.Proofs.YtgiefblcckikeaaGreatW.PrintWords Go.Proofs.YtgiefblcckikeaaGreatW.PrintLast Go.Proofs.YtgiefblcckikeaaGreatW.PrintMore Go.Proofs.YtgiefblcckikeaaGreat.G
def rLen (s : EyeS) : Int × EyeS := if (eNum s).1 < 0 ∨ 4096 < (eNum s).1 then (0, eWrong true (eNum s).2) else ((eNum s).1, (eNum s).2)
theorem eWrong_true (s : EyeS) : ¬ (eWrong true s).e = 0 := by
 unfold eWrong
 split
 ·show ¬ (40 : Int) = 0; omega
 ·next h => exact fun e => h ⟨e, rfl⟩
theorem eWrong_false (s : EyeS) : eWrong false s = s := by unfold eWrong; rw [if_neg (fun h => by cases h.2)]
theorem eList_len {α : Type} (g : EyeS → α × EyeS) (s : EyeS) : eList g s = eMany g (rLen s).1.toNat (rLen s).2 := by
 unfold eList rLen eCount
 by_cases h : (eNum s).1 < 0 ∨ 4096 < (eNum s).1
 ·rw [if_pos h]
  have e : (decide ((eNum s).1 < 0) || decide (4096 < (eNum s).1)) = true := by simp; omega
  rw [e, eMany_stop (eWrong_true _), eMany_stop (eWrong_true _)]
 ·rw [if_neg h]
  have e : (decide ((eNum s).1 < 0) || decide (4096 < (eNum s).1)) = false := by simp; omega
  rw [e, eWrong_false]
theorem rLen_size (s : EyeS) : 0 ≤ (rLen s).1 ∧ (rLen s).1 ≤ 4096 := by
 unfold rLen
 split
 ·simp
 ·show 0 ≤ (eNum s).1 ∧ (eNum s).1 ≤ 4096; omega
theorem okS_len {s : EyeS} (h : okS s) : okS (rLen s).2 := by
 unfold rLen
 split
 ·exact okS_wrong _ (okS_num h)
 ·exact okS_num h
set_option maxHeartbeats 1000000 in
theorem rdLen_is {B : List Int} {w0 w : World} {x : Nat} {s : EyeS} (hI : IsRd B w0 w x s) (hB : Below w0.heap.size w0 w) (hok : okS s) :
  Calls Tryz.prog 117 #[.pointer (some ⟨x, 0, none⟩)] w fun e w' => RdP B w0 w x (.int .i64 (rLen s).1) (rLen s).2 e w' := by
 have HN := Lib.hid (rdNum_is hI hB hok)
 obtain ⟨n, hn⟩ : ∃ n, (eNum s).1 = n := ⟨_, rfl⟩
 obtain ⟨s1, hs1⟩ : ∃ s1, (eNum s).2 = s1 := ⟨_, rfl⟩
 have HF := Lib.hid (show rLen s = if n < 0 ∨ 4096 < n then (0, eWrong true s1) else (n, s1) by unfold rLen; rw [hn, hs1])
 rw [hn, hs1] at HN
 clear hI hB hok hn hs1
 go_enter Tryz.func117, Tryz.ntmps117
 go_wp2_with fail
 refine HN.out.mono ?_
 rintro e w1 ⟨rfl, h1, h2, h3⟩
 have H1 := Lib.hid h1; have H2 := Lib.hid h2; have H3 := Lib.hid h3
 clear h1 h2 h3 HN
 have HFA := Lib.hid (rdFail_is H1.out H2.out 40)
 have hw : (if s1.e = 0 then { s1 with e := 40 } else s1) = eWrong true s1 := by
  unfold eWrong
  by_cases h : s1.e = 0
  ·rw [if_pos h, if_pos ⟨h, rfl⟩]
  ·rw [if_neg h, if_neg (fun q => h q.1)]
 rw [hw] at HFA
 clear hw
 by_cases ha : n < 0
 ·have q1 : decide (n < 0) = true := decide_eq_true ha
  have HR := Lib.hid (show rLen s = (0, eWrong true s1) by rw [HF.out, if_pos (.inl ha)])
  clear ha
  go_wp2_with fail
  refine HFA.out.mono ?_
  rintro e w2 ⟨rfl, h1, h2, h3⟩
  have G1 := Lib.hid h1; have G2 := Lib.hid h2; have G3 := Lib.hid (H3.out.trans h3)
  clear h1 h2 h3
  go_wp2_with fail
  go_ret
  exact ⟨by rw [HR.out]; rfl, by rw [HR.out]; exact G1.out, G2.out, G3.out⟩
 ·have q1 : decide (n < 0) = false := decide_eq_false ha
  by_cases hb : 4096 < n
  ·have q2 : decide ((4096 : Int) < n) = true := decide_eq_true hb
   have HR := Lib.hid (show rLen s = (0, eWrong true s1) by rw [HF.out, if_pos (.inr hb)])
   clear ha hb
   go_wp2_with fail
   refine HFA.out.mono ?_
   rintro e w2 ⟨rfl, h1, h2, h3⟩
   have G1 := Lib.hid h1; have G2 := Lib.hid h2; have G3 := Lib.hid (H3.out.trans h3)
   clear h1 h2 h3
   go_wp2_with fail
   go_ret
   exact ⟨by rw [HR.out]; rfl, by rw [HR.out]; exact G1.out, G2.out, G3.out⟩
  ·have q2 : decide ((4096 : Int) < n) = false := decide_eq_false hb
   have HR := Lib.hid (show rLen s = (n, s1) by rw [HF.out, if_neg (fun h => h.elim ha hb)])
   have hwn : wrap64 n = n := by unfold wrap64; omega
   clear ha hb
   go_wp2_with fail
   go_ret
   exact ⟨by rw [HR.out]; rfl, by rw [HR.out]; exact H1.out, H2.out, H3.out⟩
end Go.Proofs.YtgiefblcckikeaaGreat.M
end

section
/- The reference's Reader: keys. -/
set_option maxRecDepth 100000
attribute [local irreducible] Go.wpStill
namespace Go.Proofs.YtgiefblcckikeaaGreat.M
open Go.RowKit Go.Proofs.YtgiefblcckikeaaGreatW.PrintWords Go.Proofs.YtgiefblcckikeaaGreatW.PrintLast Go.Proofs.YtgiefblcckikeaaGreatW.PrintMore Go.Proofs.YtgiefblcckikeaaGreat.G
def RdL {α : Type} (d : Kd α) (el : Nat) (B : List Int) (w0 w : World) (x : Nat) (l : List α) (s' : EyeS) (e : Ending) (w' : World) : Prop := ∃ v : Value, e = .returned v ∧ Kd.S d el w' w.heap.size (fun _ => True) v l ∧ IsRd B w0 w' x s' ∧ Below w0.heap.size w0 w' ∧ KeepS (fun i => i = x) w w'
def RdI (n : Int) (s0 : EyeS) (B : List Int) (w0 w : World) (x : Nat) (v i : Value) (W : World) : Prop := ∃ (U : List KeyD) (s : EyeS), i = .int .i64 (U.length : Int) ∧ U.length ≤ n.toNat ∧ Kd.S G.k101 101 W w.heap.size (fun _ => True) v U ∧ IsRd B w0 W x s ∧ Below w0.heap.size w0 W ∧ KeepS (fun i => i = x) w W ∧ okS s ∧ eList eKey s0 = (U ++ (eMany eKey (n.toNat - U.length) s).1, (eMany eKey (n.toNat - U.length) s).2)
theorem eSmall_range (s : EyeS) : eSmall s = if -2147483648 ≤ (eNum s).1 ∧ (eNum s).1 ≤ 2147483647 then eNum s else (0, { (eNum s).2 with o := true }) := by
 unfold eSmall
 by_cases h : -2147483648 ≤ (eNum s).1 ∧ (eNum s).1 ≤ 2147483647
 ·rw [if_pos h, if_pos (by rw [IntKind.wrap_i32]; omega)]
 ·rw [if_neg h, if_neg (by rw [IntKind.wrap_i32]; omega)]
set_option maxHeartbeats 2000000 in
theorem rdKeys_is {B : List Int} {w0 w : World} {x : Nat} {s : EyeS} (hI : IsRd B w0 w x s) (hB : Below w0.heap.size w0 w) (hok : okS s) :
  Calls Tryz.prog 158 #[.pointer (some ⟨x, 0, none⟩)] w fun e w' => RdL G.k101 101 B w0 w x (eList eKey s).1 (eList eKey s).2 e w' := by
 have HN := Lib.hid (rdLen_is hI hB hok)
 have HOK := Lib.hid (okS_len hok)
 have HLT := Lib.hid hI.lt
 have HGEW := Lib.hid (show w0.heap.size ≤ w.heap.size from hB.size)
 have HSZ := Lib.hid (rLen_size s)
 have HEL := Lib.hid (eList_len eKey s)
 obtain ⟨n, hn⟩ : ∃ n, (rLen s).1 = n := ⟨_, rfl⟩
 obtain ⟨s1, hs1⟩ : ∃ s1, (rLen s).2 = s1 := ⟨_, rfl⟩
 rw [hn] at HSZ
 rw [hn, hs1] at HN HEL
 rw [hs1] at HOK
 clear hI hB hok hn hs1
 go_enter Tryz.func158, Tryz.ntmps158
 go_wp2_with fail
 refine HN.out.mono ?_
 rintro e w1 ⟨rfl, h1, h2, h3⟩
 have G1 := Lib.hid h1; have G2 := Lib.hid h2; have G3 := Lib.hid h3
 clear h1 h2 h3 HN
 go_wp2_with fail
 go_loopw [4, 5, 6] (fun v i t wr => RdI n s B w0 w x v i wr) (fun _ i _ _ => n.toNat - (intOf i).toNat)
 case atStart => exact ⟨[], s1, rfl, by simp, Kd.S_nil _ _ _ _ _, G1.out, G2.out, G3.out, HOK.out, by simpa using HEL.out⟩
 case round =>
  obtain ⟨U, s2, rfl, hUn, hS, hI, hB, hK, hO, hF⟩ := hrel
  have HI := Lib.hid hI; have HB := Lib.hid hB; have HK := Lib.hid hK; have HO := Lib.hid hO; have HF := Lib.hid hF; have HS := Lib.hid hS; have HUN := Lib.hid hUn
  obtain ⟨Av, cv, rfl⟩ := Kd.S_slice hS
  obtain ⟨A, c, k, g1, g2, g3⟩ := hI
  have c1 : wr.cell? ⟨x, 2, none⟩ = some (.int .i64 s2.e) := by simp [World.cell?, g1]
  clear hB hK hO hF hS hUn g1 g2 g3
  by_cases hlt : (U.length : Int) < n
  ·by_cases he : s2.e = 0
   ·have hq1 : decide ((U.length : Int) < n) = true := decide_eq_true hlt
    have hq2 : (s2.e == 0) = true := by rw [he]; rfl
    have HG := Lib.hid (rdNum_is HI.out HB.out HO.out)
    have HGS := Lib.hid (okS_small HO.out)
    have HSR := Lib.hid (eSmall_range s2)
    have H32 := eSmall_i32 s2
    obtain ⟨n1, hn1⟩ : ∃ n1, (eNum s2).1 = n1 := ⟨_, rfl⟩
    obtain ⟨s3, hs3⟩ : ∃ s3, (eNum s2).2 = s3 := ⟨_, rfl⟩
    obtain ⟨t1, ht1⟩ : ∃ t1, (eSmall s2).1 = t1 := ⟨_, rfl⟩
    obtain ⟨s4, hs4⟩ : ∃ s4, (eSmall s2).2 = s4 := ⟨_, rfl⟩
    have HSR2 := Lib.hid (show (t1, s4) = if -2147483648 ≤ n1 ∧ n1 ≤ 2147483647 then (n1, s3) else (0, { s3 with o := true }) by
     rw [← ht1, ← hs4, ← hn1, ← hs3]; exact HSR.out)
    have HKY := Lib.hid (show eKey s2 = (⟨t1, (eNum s4).1⟩, (eNum s4).2) by unfold eKey; rw [ht1, hs4])
    rw [hn1, hs3] at HG
    rw [hs4] at HGS
    rw [ht1] at H32
    obtain ⟨m, hm⟩ : ∃ m, (eNum s4).1 = m := ⟨_, rfl⟩
    obtain ⟨s5, hs5⟩ : ∃ s5, (eNum s4).2 = s5 := ⟨_, rfl⟩
    rw [hm, hs5] at HKY
    have HO5 := Lib.hid (show okS s5 by rw [← hs5]; exact okS_num HGS.out)
    have HM5 := Lib.hid (And.intro hm hs5)
    have HF2 := Lib.hid (show eList eKey s = ((U ++ [(⟨t1, m⟩ : KeyD)]) ++ (eMany eKey (n.toNat - (U ++ [(⟨t1, m⟩ : KeyD)]).length) s5).1, (eMany eKey (n.toNat - (U ++ [(⟨t1, m⟩ : KeyD)]).length) s5).2) by
     rw [HF.out]
     have e1 : n.toNat - U.length = (n.toNat - (U ++ [(⟨t1, m⟩ : KeyD)]).length) + 1 := by simp; omega
     rw [e1]
     simp only [eMany, he, if_true, HKY.out, List.append_assoc, List.singleton_append])
    have HLT2 := Lib.hid hlt
    clear hlt he hn1 hs3 ht1 hs4 HSR hm hs5
    go_wp2_with fail
    refine HG.out.mono ?_
    rintro e w3 ⟨rfl, h1, h2, h3⟩
    have K1 := Lib.hid h1; have K2 := Lib.hid h2; have K3 := Lib.hid h3
    clear h1 h2 h3
    obtain ⟨A, c, k, g1, g2, g3⟩ := K1.out
    have HH := Lib.hid g1; have HGG := Lib.hid g2; have HG3 := Lib.hid g3
    have z3 : w3.frozen? ⟨x, 3, none⟩ = false := by simp [World.frozen?, g1]
    have d3 : w3.cell? ⟨x, 3, none⟩ = some (.bool s3.o) := by simp [World.cell?, g1]
    clear g1 g2 g3
    by_cases ha : n1 < -2147483648
    ·have q1 : decide (n1 < -2147483648) = true := decide_eq_true ha
     obtain ⟨rfl, rfl⟩ : t1 = 0 ∧ s4 = { s3 with o := true } := by
      have := HSR2.out
      rw [if_neg (by omega)] at this
      simpa using this
     clear ha
     have e1 := heap_same w3 ⟨x, 3, none⟩ (.bool true) HH.out rfl
     have HI4 := Lib.hid (show IsRd B w0 (w3.setCell ⟨x, 3, none⟩ (.bool true)) x { s3 with o := true } from ⟨A, c, k, by simpa using e1, HGG.out, HG3.out⟩)
     have HB4 := Lib.hid (K2.out.setCell (p := ⟨x, 3, none⟩) (by exact HGG.out) (.bool true))
     have KK := Lib.hid (K3.out.set (p := ⟨x, 3, none⟩) (.inl rfl) (.bool true))
     clear e1
     have HN5 := rdNum_is HI4.out HB4.out HGS.out
     rw [HM5.out.1, HM5.out.2] at HN5
     have HN5 := Lib.hid HN5
     go_wp2_with fail
     refine HN5.out.mono ?_
     rintro e w5 ⟨rfl, h1, h2, h3⟩
     have HS3 := Lib.hid (show Kd.S G.k101 101 w5 w.heap.size (fun _ => True) (.slice Av U.length cv) U from S_keep' HLT.out HS.out (KK.out.trans h3))
     have L1 := Lib.hid h1; have L2 := Lib.hid h2; have L3 := Lib.hid (HK.out.trans (KK.out.trans h3))
     have HZ3 := Lib.hid (show w.heap.size ≤ w5.heap.size from L3.out.size)
     have hul : U.length ≤ 4096 := by have h1 := HUN.out; have h2 := HSZ.out; omega
     clear h1 h2 h3
     go_wp2_with ((with_reducible refine gate_builtin (b := .append) (xs := #[.tmp 32, .tmp 38]) rfl ?_); at_builtin; refine Kd.S_append G.k101 (w0 := w5) w.heap.size rfl (.tmp 32) (.tmp 38) 22 101 (.agg #[.int .i32 0, .int .i64 0]) 16 rfl Tryz.underlying22 infoKey rfl (by decide) (by omega) _ U (⟨0, m⟩ : KeyD) [.int .i32 0, .int .i64 m] (fun _ => True) (fun _ => False) rfl rfl (G.k101_mkM _ _ _ (⟨0, m⟩ : KeyD)) (fun _ hk => hk.elim) (fun _ _ => trivial) (Kd.S_mono HS3.out (fun _ h => ⟨h, fun q => q⟩)) (Below.refl _ _) HZ3.out (by omega) ?_; intro v1 w6 ho hb5 hg5 hat; obtain ⟨A5, c5, rfl⟩ := Kd.S_slice ho; have HS5 := Lib.hid ho; have HK5 := Lib.hid (L3.out.then_base hb5); have HI5 := Lib.hid (L1.out.at (hb5.block x HLT.out)); have HB5 := Lib.hid (L2.out.trans (hb5.mono HGEW.out)); clear ho hb5 hg5 hat)
     go_roundw
     case rel =>
      refine ⟨U ++ [(⟨0, m⟩ : KeyD)], s5, by rw [List.length_append]; go_num, ?_, (by have h9 := HS5.out; rw [List.length_append] at h9; exact h9), HI5.out, HB5.out, HK5.out, HO5.out, HF2.out⟩
      have h2 := HLT2.out
      rw [List.length_append, List.length_singleton]
      omega
     case measure => simp [intOf]; have h2 := HLT2.out; omega
    ·have q1 : decide (n1 < -2147483648) = false := decide_eq_false ha
     by_cases hb : 2147483647 < n1
     ·have q2 : decide (2147483647 < n1) = true := decide_eq_true hb
      obtain ⟨rfl, rfl⟩ : t1 = 0 ∧ s4 = { s3 with o := true } := by
       have := HSR2.out
       rw [if_neg (by omega)] at this
       simpa using this
      clear ha hb
      have e1 := heap_same w3 ⟨x, 3, none⟩ (.bool true) HH.out rfl
      have HI4 := Lib.hid (show IsRd B w0 (w3.setCell ⟨x, 3, none⟩ (.bool true)) x { s3 with o := true } from ⟨A, c, k, by simpa using e1, HGG.out, HG3.out⟩)
      have HB4 := Lib.hid (K2.out.setCell (p := ⟨x, 3, none⟩) (by exact HGG.out) (.bool true))
      have KK := Lib.hid (K3.out.set (p := ⟨x, 3, none⟩) (.inl rfl) (.bool true))
      clear e1
      have HN5 := rdNum_is HI4.out HB4.out HGS.out
      rw [HM5.out.1, HM5.out.2] at HN5
      have HN5 := Lib.hid HN5
      go_wp2_with fail
      refine HN5.out.mono ?_
      rintro e w5 ⟨rfl, h1, h2, h3⟩
      have HS3 := Lib.hid (show Kd.S G.k101 101 w5 w.heap.size (fun _ => True) (.slice Av U.length cv) U from S_keep' HLT.out HS.out (KK.out.trans h3))
      have L1 := Lib.hid h1; have L2 := Lib.hid h2; have L3 := Lib.hid (HK.out.trans (KK.out.trans h3))
      have HZ3 := Lib.hid (show w.heap.size ≤ w5.heap.size from L3.out.size)
      have hul : U.length ≤ 4096 := by have h1 := HUN.out; have h2 := HSZ.out; omega
      clear h1 h2 h3
      go_wp2_with ((with_reducible refine gate_builtin (b := .append) (xs := #[.tmp 32, .tmp 38]) rfl ?_); at_builtin; refine Kd.S_append G.k101 (w0 := w5) w.heap.size rfl (.tmp 32) (.tmp 38) 22 101 (.agg #[.int .i32 0, .int .i64 0]) 16 rfl Tryz.underlying22 infoKey rfl (by decide) (by omega) _ U (⟨0, m⟩ : KeyD) [.int .i32 0, .int .i64 m] (fun _ => True) (fun _ => False) rfl rfl (G.k101_mkM _ _ _ (⟨0, m⟩ : KeyD)) (fun _ hk => hk.elim) (fun _ _ => trivial) (Kd.S_mono HS3.out (fun _ h => ⟨h, fun q => q⟩)) (Below.refl _ _) HZ3.out (by omega) ?_; intro v1 w6 ho hb5 hg5 hat; obtain ⟨A5, c5, rfl⟩ := Kd.S_slice ho; have HS5 := Lib.hid ho; have HK5 := Lib.hid (L3.out.then_base hb5); have HI5 := Lib.hid (L1.out.at (hb5.block x HLT.out)); have HB5 := Lib.hid (L2.out.trans (hb5.mono HGEW.out)); clear ho hb5 hg5 hat)
      go_roundw
      case rel =>
       refine ⟨U ++ [(⟨0, m⟩ : KeyD)], s5, by rw [List.length_append]; go_num, ?_, (by have h9 := HS5.out; rw [List.length_append] at h9; exact h9), HI5.out, HB5.out, HK5.out, HO5.out, HF2.out⟩
       have h2 := HLT2.out
       rw [List.length_append, List.length_singleton]
       omega
      case measure => simp [intOf]; have h2 := HLT2.out; omega
     ·have q2 : decide (2147483647 < n1) = false := decide_eq_false hb
      obtain ⟨rfl, rfl⟩ : t1 = n1 ∧ s4 = s3 := by
       have := HSR2.out
       rw [if_pos (by omega)] at this
       simpa using this
      have hw32 : wrap32 t1 = t1 := by unfold wrap32; omega
      have KK := K3
      clear ha hb
      have HN5 := rdNum_is K1.out K2.out HGS.out
      rw [HM5.out.1, HM5.out.2] at HN5
      have HN5 := Lib.hid HN5
      go_wp2_with fail
      refine HN5.out.mono ?_
      rintro e w5 ⟨rfl, h1, h2, h3⟩
      have HS3 := Lib.hid (show Kd.S G.k101 101 w5 w.heap.size (fun _ => True) (.slice Av U.length cv) U from S_keep' HLT.out HS.out (KK.out.trans h3))
      have L1 := Lib.hid h1; have L2 := Lib.hid h2; have L3 := Lib.hid (HK.out.trans (KK.out.trans h3))
      have HZ3 := Lib.hid (show w.heap.size ≤ w5.heap.size from L3.out.size)
      have hul : U.length ≤ 4096 := by have h1 := HUN.out; have h2 := HSZ.out; omega
      clear h1 h2 h3
      go_wp2_with ((with_reducible refine gate_builtin (b := .append) (xs := #[.tmp 32, .tmp 38]) rfl ?_); at_builtin; refine Kd.S_append G.k101 (w0 := w5) w.heap.size rfl (.tmp 32) (.tmp 38) 22 101 (.agg #[.int .i32 0, .int .i64 0]) 16 rfl Tryz.underlying22 infoKey rfl (by decide) (by omega) _ U (⟨t1, m⟩ : KeyD) [.int .i32 t1, .int .i64 m] (fun _ => True) (fun _ => False) rfl rfl (G.k101_mkM _ _ _ (⟨t1, m⟩ : KeyD)) (fun _ hk => hk.elim) (fun _ _ => trivial) (Kd.S_mono HS3.out (fun _ h => ⟨h, fun q => q⟩)) (Below.refl _ _) HZ3.out (by omega) ?_; intro v1 w6 ho hb5 hg5 hat; obtain ⟨A5, c5, rfl⟩ := Kd.S_slice ho; have HS5 := Lib.hid ho; have HK5 := Lib.hid (L3.out.then_base hb5); have HI5 := Lib.hid (L1.out.at (hb5.block x HLT.out)); have HB5 := Lib.hid (L2.out.trans (hb5.mono HGEW.out)); clear ho hb5 hg5 hat)
      go_roundw
      case rel =>
       refine ⟨U ++ [(⟨t1, m⟩ : KeyD)], s5, by rw [List.length_append]; go_num, ?_, (by have h9 := HS5.out; rw [List.length_append] at h9; exact h9), HI5.out, HB5.out, HK5.out, HO5.out, HF2.out⟩
       have h2 := HLT2.out
       rw [List.length_append, List.length_singleton]
       omega
      case measure => simp [intOf]; have h2 := HLT2.out; omega
   ·have hq1 : decide ((U.length : Int) < n) = true := decide_eq_true hlt
    have hq2 : (s2.e == 0) = false := beq_eq_false_iff_ne.2 he
    have HF2 := Lib.hid (show eList eKey s = (U, s2) by rw [HF.out, eMany_stop he, List.append_nil])
    clear hlt he
    go_wp2_with fail
    go_ret
    exact ⟨_, rfl, by rw [HF2.out]; exact HS.out, by rw [HF2.out]; exact HI.out, HB.out, HK.out⟩
  ·have hq1 : decide ((U.length : Int) < n) = false := decide_eq_false hlt
   have HF2 := Lib.hid (show eList eKey s = (U, s2) by
    have e1 : n.toNat - U.length = 0 := by omega
    rw [HF.out, e1]
    simp only [eMany, List.append_nil])
   clear hlt
   go_wp2_with fail
   go_ret
   exact ⟨_, rfl, by rw [HF2.out]; exact HS.out, by rw [HF2.out]; exact HI.out, HB.out, HK.out⟩
end Go.Proofs.YtgiefblcckikeaaGreat.M
end

section
/- The reference's Reader: Ends. -/
set_option maxRecDepth 100000
attribute [local irreducible] Go.wpStill
namespace Go.Proofs.YtgiefblcckikeaaGreat.M
open Go.RowKit Go.Proofs.YtgiefblcckikeaaGreatW.PrintWords Go.Proofs.YtgiefblcckikeaaGreatW.PrintLast Go.Proofs.YtgiefblcckikeaaGreatW.PrintMore Go.Proofs.YtgiefblcckikeaaGreat.G
theorem eEnds_false (s : EyeS) (may : Bool) : eEnds s may false = if s.e = 0 then (if s.o = true ∨ may = false then 40 else 0) else s.e := by
 unfold eEnds
 by_cases h : s.e = 0
 ·rw [if_neg (fun q => q h), if_neg (fun q => by cases q.1), if_pos h]
 ·rw [if_pos h, if_neg h]
theorem rdEnds_is {B : List Int} {w0 w : World} {x : Nat} {s : EyeS} (hI : IsRd B w0 w x s) (may : Bool) :
  Calls Tryz.prog 58 #[.pointer (some ⟨x, 0, none⟩), .bool may] w fun e w' => e = .returned (.int .i64 (eEnds s may false)) ∧ w' = w := by
 obtain ⟨A, c, k, h1, h2⟩ := hI
 have c2 : w.cell? ⟨x, 2, none⟩ = some (.int .i64 s.e) := by simp [World.cell?, h1]
 have c3 : w.cell? ⟨x, 3, none⟩ = some (.bool s.o) := by simp [World.cell?, h1]
 have HF := Lib.hid (eEnds_false s may)
 clear h1 h2
 obtain ⟨l, e, o⟩ := s
 simp only at c2 c3
 by_cases he : e = 0
 ·have hq : (e == 0) = true := by rw [he]; rfl
  have HR := Lib.hid (show eEnds ⟨l, e, o⟩ may false = if o = true ∨ may = false then 40 else 0 by rw [HF.out, if_pos he])
  subst he
  clear HF
  cases o <;> cases may <;> (go_enter Tryz.func58, Tryz.ntmps58; go_wp2_with fail; go_ret; exact ⟨by rw [HR.out]; rfl, rfl⟩)
 ·have hq : (e == 0) = false := beq_eq_false_iff_ne.2 he
  have HR := Lib.hid (show eEnds ⟨l, e, o⟩ may false = e by rw [HF.out, if_neg he])
  clear HF he
  go_enter Tryz.func58, Tryz.ntmps58
  go_wp2_with fail
  go_ret
  exact ⟨by rw [HR.out]; rfl, rfl⟩
end Go.Proofs.YtgiefblcckikeaaGreat.M
end

section
/- Reading, in plain Lean: the eye's and the reference's reader's values, and that they agree. -/
set_option maxRecDepth 100000
namespace Go.Proofs.YtgiefblcckikeaaGreat.M
open Go.RowKit Go.Proofs.YtgiefblcckikeaaGreatW.PrintWords Go.Proofs.YtgiefblcckikeaaGreatW.PrintMore Go.Proofs.YtgiefblcckikeaaGreat.G
def FM {α γ : Type} (f : α → γ) (g : EyeS → α × EyeS) (s : EyeS) : γ × EyeS := (f (g s).1, (g s).2)
def PR {α β : Type} (g : EyeS → α × EyeS) (k : EyeS → β × EyeS) (s : EyeS) : (α × β) × EyeS := (((g s).1, (k (g s).2).1), (k (g s).2).2)
structure Sim {α : Type} (bad : α → Prop) (g g' : EyeS → α × EyeS) : Prop where
 le : ∀ s s' : EyeS, s.l = s'.l → s.e = s'.e → (g s).2.l = (g' s').2.l ∧ (g s).2.e = (g' s').2.e
 st : ∀ s : EyeS, ¬ s.e = 0 → (g s).2.l = s.l ∧ (g s).2.e = s.e
 mo : ∀ s : EyeS, s.o = true → (g s).2.o = true
 mo' : ∀ s : EyeS, s.o = true → (g' s).2.o = true
 eq : ∀ s s' : EyeS, s.l = s'.l → s.e = s'.e → (g s).2.e = 0 → ((g s).1 = (g' s').1 ∧ (s.o = s'.o → (g s).2.o = (g' s').2.o)) ∨ ((g s).2.o = true ∧ ((g' s').2.o = true ∨ bad (g' s').1))
variable {α β γ : Type} {b1 : α → Prop} {b2 : β → Prop} {g g' : EyeS → α × EyeS} {k k' : EyeS → β × EyeS}
theorem Sim.fm (h : Sim b1 g g') (f : α → γ) (b : γ → Prop) (hb : ∀ a, b1 a → b (f a)) : Sim b (FM f g) (FM f g') :=
 ⟨h.le, h.st, h.mo, h.mo', fun s s' h1 h2 h3 => (h.eq s s' h1 h2 h3).imp (fun q => ⟨congrArg f q.1, q.2⟩) (fun q => ⟨q.1, q.2.imp id (hb _)⟩)⟩
theorem Sim.pr (h : Sim b1 g g') (q : Sim b2 k k') : Sim (fun x : α × β => b1 x.1 ∨ b2 x.2) (PR g k) (PR g' k') where
 le s s' h1 h2 := q.le _ _ (h.le s s' h1 h2).1 (h.le s s' h1 h2).2
 st s hs := by
  obtain ⟨a, b⟩ := h.st s hs
  obtain ⟨c, d⟩ := q.st (g s).2 (by rw [b]; exact hs)
  exact ⟨c.trans a, d.trans b⟩
 mo s hs := q.mo _ (h.mo s hs)
 mo' s hs := q.mo' _ (h.mo' s hs)
 eq s s' h1 h2 h3 := by
  obtain ⟨a, b⟩ := h.le s s' h1 h2
  have ht : (g s).2.e = 0 := by
   by_cases ht : (g s).2.e = 0
   ·exact ht
   ·exact absurd ((q.st _ ht).2.symm.trans h3) ht
  rcases q.eq _ _ a b h3 with c | c
  ·rcases h.eq s s' h1 h2 ht with d | d
   ·exact .inl ⟨Prod.ext d.1 c.1, fun e => c.2 (d.2 e)⟩
   ·exact .inr ⟨q.mo _ d.1, d.2.elim (fun e => .inl (q.mo' _ e)) (fun e => .inr (.inl e))⟩
  ·exact .inr ⟨c.1, c.2.imp id .inr⟩
theorem sim_num : Sim (fun _ => False) eNum eNum where
 le s s' h1 h2 := by
  unfold eNum
  rw [h1, h2]
  split
  ·exact ⟨rfl, rfl⟩
  ·exact ⟨h1, h2⟩
 st s hs := by unfold eNum; rw [if_neg hs]; exact ⟨rfl, rfl⟩
 mo s hs := by
  unfold eNum
  split
  ·exact hs
  ·exact hs
 mo' s hs := by
  unfold eNum
  split
  ·exact hs
  ·exact hs
 eq s s' h1 h2 _ := by
  left
  unfold eNum
  rw [h1, h2]
  split
  ·exact ⟨rfl, id⟩
  ·exact ⟨rfl, id⟩
theorem sim_data : Sim (fun _ => False) eData eData where
 le s s' h1 h2 := by
  unfold eData
  rw [h1, h2]
  split
  ·exact ⟨rfl, rfl⟩
  ·exact ⟨h1, h2⟩
 st s hs := by unfold eData; rw [if_neg hs]; exact ⟨rfl, rfl⟩
 mo s hs := by
  unfold eData
  split
  ·exact hs
  ·exact hs
 mo' s hs := by
  unfold eData
  split
  ·exact hs
  ·exact hs
 eq s s' h1 h2 _ := by
  left
  unfold eData
  rw [h1, h2]
  split
  ·exact ⟨rfl, id⟩
  ·exact ⟨rfl, id⟩
theorem eNum_v {s s' : EyeS} (h1 : s.l = s'.l) (h2 : s.e = s'.e) : (eNum s).1 = (eNum s').1 := by
 unfold eNum
 rw [h1, h2]
 split
 ·rfl
 ·rfl
theorem eNum_o (s : EyeS) : (eNum s).2.o = s.o := by
 unfold eNum
 split
 ·rfl
 ·rfl
theorem eNum_z {s : EyeS} (h : ¬ (eNum s).2.e = 0) : (eNum s).1 = 0 := by
 by_cases he : s.e = 0
 ·unfold eNum at h ⊢
  rw [if_pos he] at h ⊢
  exact (takeNum_err h).1
 ·unfold eNum
  rw [if_neg he]
def rSmall (s : EyeS) : Int × EyeS := if (eNum s).1 < -2147483648 ∨ 2147483648 < (eNum s).1 then (-2147483648, (eNum s).2) else eNum s
def SmBad (v : Int) : Prop := v = -2147483648 ∨ v = 2147483648
theorem eSmall_2 (s : EyeS) : (eSmall s).2.l = (eNum s).2.l ∧ (eSmall s).2.e = (eNum s).2.e ∧ (s.o = true → (eSmall s).2.o = true) := by
 rw [eSmall_range]
 split
 ·exact ⟨rfl, rfl, sim_num.mo s⟩
 ·exact ⟨rfl, rfl, fun _ => rfl⟩
theorem rSmall_2 (s : EyeS) : (rSmall s).2 = (eNum s).2 := by
 unfold rSmall
 split
 ·rfl
 ·rfl
theorem sim_small : Sim SmBad eSmall rSmall where
 le s s' h1 h2 := by
  obtain ⟨a, b, _⟩ := eSmall_2 s
  rw [a, b, rSmall_2]
  exact sim_num.le s s' h1 h2
 st s hs := by
  obtain ⟨a, b, _⟩ := eSmall_2 s
  rw [a, b]
  exact sim_num.st s hs
 mo s hs := (eSmall_2 s).2.2 hs
 mo' s hs := by rw [rSmall_2]; exact sim_num.mo s hs
 eq s s' h1 h2 _ := by
  have hv := eNum_v h1 h2
  by_cases r : -2147483648 ≤ (eNum s).1 ∧ (eNum s).1 ≤ 2147483647
  ·left
   rw [eSmall_range, if_pos r]
   unfold rSmall
   rw [if_neg (by omega)]
   exact ⟨hv, fun h => by rw [eNum_o, eNum_o]; exact h⟩
  ·right
   rw [eSmall_range, if_neg r]
   refine ⟨rfl, .inr ?_⟩
   unfold rSmall SmBad
   split
   ·exact .inl rfl
   ·exact .inr (by show (eNum s').1 = 2147483648; omega)
theorem sim_small0 : Sim (fun _ => False) eSmall eSmall where
 le s s' h1 h2 := by
  obtain ⟨a, b, _⟩ := eSmall_2 s
  obtain ⟨c, d, _⟩ := eSmall_2 s'
  rw [a, b, c, d]
  exact sim_num.le s s' h1 h2
 st := sim_small.st
 mo := sim_small.mo
 mo' := sim_small.mo
 eq s s' h1 h2 _ := by
  have hv := eNum_v h1 h2
  left
  rw [eSmall_range s, eSmall_range s', ← hv]
  split
  ·exact ⟨hv, fun h => by rw [eNum_o, eNum_o]; exact h⟩
  ·exact ⟨rfl, fun _ => rfl⟩
theorem sim_key : Sim (fun _ => False) eKey eKey := (((sim_small0.pr sim_num).fm (fun x : Int × Int => (⟨x.1, x.2⟩ : KeyD)) (fun _ => False) (fun _ h => h.elim id id) : Sim (fun _ => False) (FM (fun x : Int × Int => (⟨x.1, x.2⟩ : KeyD)) (PR eSmall eNum)) (FM (fun x : Int × Int => (⟨x.1, x.2⟩ : KeyD)) (PR eSmall eNum))))
theorem eWrong_l (b : Bool) (s : EyeS) : (eWrong b s).l = s.l ∧ (eWrong b s).o = s.o := by
 unfold eWrong
 split
 ·exact ⟨rfl, rfl⟩
 ·exact ⟨rfl, rfl⟩
theorem eWrong_e (b : Bool) {s s' : EyeS} (h : s.e = s'.e) : (eWrong b s).e = (eWrong b s').e := by
 unfold eWrong
 rw [h]
 split
 ·rfl
 ·exact h
theorem eWrong_st (b : Bool) {s : EyeS} (h : ¬ s.e = 0) : eWrong b s = s := by
 unfold eWrong
 rw [if_neg (fun q => h q.1)]
theorem sim_many (h : Sim b1 g g') : ∀ n, Sim (fun l : List α => ∃ x ∈ l, b1 x) (eMany g n) (eMany g' n)
 | 0 => ⟨fun s s' h1 h2 => ⟨h1, h2⟩, fun s _ => ⟨rfl, rfl⟩, fun s q => q, fun s q => q, fun s s' h1 h2 _ => .inl ⟨rfl, id⟩⟩
 | n + 1 => by
  have ih := (h.pr (sim_many h n)).fm (fun x : α × List α => x.1 :: x.2) (fun l : List α => ∃ x ∈ l, b1 x) (fun x q => q.elim (fun e => ⟨x.1, List.mem_cons_self .., e⟩) (fun ⟨y, m, e⟩ => ⟨y, List.mem_cons_of_mem _ m, e⟩))
  have e1 : ∀ s : EyeS, s.e = 0 → eMany g (n + 1) s = FM (fun x : α × List α => x.1 :: x.2) (PR g (eMany g n)) s := fun s hs => by simp only [eMany, if_pos hs]; rfl
  have e2 : ∀ s : EyeS, s.e = 0 → eMany g' (n + 1) s = FM (fun x : α × List α => x.1 :: x.2) (PR g' (eMany g' n)) s := fun s hs => by simp only [eMany, if_pos hs]; rfl
  refine ⟨fun s s' h1 h2 => ?_, fun s hs => ?_, fun s hs => ?_, fun s hs => ?_, fun s s' h1 h2 h3 => ?_⟩
  ·by_cases hs : s.e = 0
   ·rw [e1 s hs, e2 s' (h2 ▸ hs)]; exact ih.le s s' h1 h2
   ·rw [eMany_stop hs, eMany_stop (fun q => hs (h2.trans q))]; exact ⟨h1, h2⟩
  ·rw [eMany_stop hs]; exact ⟨rfl, rfl⟩
  ·by_cases he : s.e = 0
   ·rw [e1 s he]; exact ih.mo s hs
   ·rw [eMany_stop he]; exact hs
  ·by_cases he : s.e = 0
   ·rw [e2 s he]; exact ih.mo' s hs
   ·rw [eMany_stop he]; exact hs
  ·by_cases hs : s.e = 0
   ·rw [e1 s hs] at h3 ⊢
    rw [e2 s' (h2 ▸ hs)]; exact ih.eq s s' h1 h2 h3
   ·rw [eMany_stop hs] at h3; exact absurd h3 hs
theorem eCount_le {s s' : EyeS} (h1 : s.l = s'.l) (h2 : s.e = s'.e) : (eCount s).l = (eCount s').l ∧ (eCount s).e = (eCount s').e := by
 obtain ⟨a, b⟩ := sim_num.le s s' h1 h2
 unfold eCount
 rw [(eWrong_l _ _).1, (eWrong_l _ _).1, eNum_v h1 h2]
 exact ⟨a, eWrong_e _ b⟩
theorem eCount_o (s : EyeS) : (eCount s).o = s.o := by unfold eCount; rw [(eWrong_l _ _).2, eNum_o]
theorem sim_list (h : Sim b1 g g') : Sim (fun l : List α => ∃ x ∈ l, b1 x) (eList g) (eList g') where
 le s s' h1 h2 := by
  obtain ⟨a, b⟩ := eCount_le h1 h2
  unfold eList
  rw [eNum_v h1 h2]
  exact (sim_many h _).le _ _ a b
 st s hs := by
  obtain ⟨a, b⟩ := sim_num.st s hs
  have hc : (eCount s) = (eNum s).2 := by unfold eCount; exact eWrong_st _ (by rw [b]; exact hs)
  obtain ⟨c, d⟩ := (sim_many h (eNum s).1.toNat).st (eCount s) (by rw [hc, b]; exact hs)
  unfold eList
  rw [c, d, hc]
  exact ⟨a, b⟩
 mo s hs := (sim_many h _).mo _ (by rw [eCount_o]; exact hs)
 mo' s hs := (sim_many h _).mo' _ (by rw [eCount_o]; exact hs)
 eq s s' h1 h2 h3 := by
  obtain ⟨a, b⟩ := eCount_le h1 h2
  unfold eList at h3 ⊢
  rw [← eNum_v h1 h2]
  refine ((sim_many h _).eq _ _ a b h3).imp (fun q => ⟨q.1, fun e => q.2 (by rw [eCount_o, eCount_o]; exact e)⟩) id
theorem Sim.weak (h : Sim b1 g g') {b : α → Prop} (hb : ∀ a, b1 a → b a) : Sim b g g' := ⟨h.le, h.st, h.mo, h.mo', fun s s' h1 h2 h3 => (h.eq s s' h1 h2 h3).imp id (fun q => ⟨q.1, q.2.imp id (hb _)⟩)⟩
theorem sim_list0 (h : Sim (fun _ => False) g g') : Sim (fun _ => False) (eList g) (eList g') := (sim_list h).weak (fun _ ⟨_, _, q⟩ => q)
abbrev txW (x : Int × Int × List Int × List Int × List KeyD × List KeyD) : TxD := ⟨x.1, x.2.1, x.2.2.1, x.2.2.2.1, x.2.2.2.2.1, x.2.2.2.2.2⟩
theorem sim_txn : Sim (fun _ => False) eTxn eTxn :=
 (((sim_num.pr (sim_num.pr (sim_data.pr ((sim_list0 sim_num).pr ((sim_list0 sim_key).pr (sim_list0 sim_key)))))).fm txW (fun _ => False) (fun _ h => by simpa using h)) :
  Sim (fun _ => False) (FM txW (PR eNum (PR eNum (PR eData (PR (eList eNum) (PR (eList eKey) (eList eKey))))))) (FM txW (PR eNum (PR eNum (PR eData (PR (eList eNum) (PR (eList eKey) (eList eKey))))))))
def bEntry (sm : EyeS → Int × EyeS) : EyeS → EnD × EyeS := FM (fun x : Int × Int × List TxD => ((1, x.1, x.2.1, x.2.2) : EnD)) (PR sm (PR eNum (eList eTxn)))
def rEntry (s : EyeS) : EnD × EyeS := if (rSmall s).1 = 0 then ((0, 0, 0, []), (rSmall s).2) else if (rSmall s).1 = 1 then bEntry rSmall (rSmall s).2 else (((rSmall s).1, 0, 0, []), eWrong true (rSmall s).2)
def EnBad (x : EnD) : Prop := mayE x.1 x.2.1 x.2.2.1 x.2.2.2 = false
theorem smBad_from {v : Int} (h : SmBad v) : inB 0 4 [v] = false := by
 rcases h with h | h <;> (subst h; rfl)
theorem sim_bentry : Sim EnBad (bEntry eSmall) (bEntry rSmall) :=
 (sim_small.pr (sim_num.pr (sim_list0 sim_txn))).fm _ _ (fun x h => by
  have h0 : SmBad x.1 := h.elim id (fun q => absurd q (by simp))
  show mayE 1 x.1 x.2.1 x.2.2 = false
  unfold mayE
  simp [smBad_from h0])
theorem rSmall_v {s : EyeS} (h : -2147483648 ≤ (eNum s).1 ∧ (eNum s).1 ≤ 2147483647) : rSmall s = eNum s := by
 unfold rSmall
 rw [if_neg (by omega)]
theorem rSmall_x {s : EyeS} {a b : Int} (ha : -2147483648 < a) (hb : b < 2147483648) (h : ¬ (a ≤ (eNum s).1 ∧ (eNum s).1 ≤ b)) : ¬ (a ≤ (rSmall s).1 ∧ (rSmall s).1 ≤ b) := by
 unfold rSmall
 split
 ·show ¬ (a ≤ -2147483648 ∧ _); omega
 ·exact h
theorem entry_cases {s s' : EyeS} (h1 : s.l = s'.l) (h2 : s.e = s'.e) :
  (eEntry s = ((0, 0, 0, []), (eNum s).2) ∧ rEntry s' = ((0, 0, 0, []), (eNum s').2)) ∨
  ((eNum s).2.e = 0 ∧ eEntry s = bEntry eSmall (eNum s).2 ∧ rEntry s' = bEntry rSmall (eNum s').2) ∨
  ((eNum s).2.e = 0 ∧ eEntry s = ((0, 0, 0, []), eWrong true (eNum s).2) ∧ ∃ v, rEntry s' = ((v, 0, 0, []), eWrong true (eNum s').2)) := by
 have hv := eNum_v h1 h2
 by_cases hn0 : (eNum s).1 = 0
 ·left
  have hr : rSmall s' = eNum s' := rSmall_v (by omega)
  have hk : eKind s = (eNum s).2 := by unfold eKind; rw [hn0]; exact eWrong_false _
  unfold eEntry rEntry
  rw [if_pos (.inr hn0), hk, hr, if_pos (hv.symm.trans hn0)]
  exact ⟨rfl, rfl⟩
 ·have he : (eNum s).2.e = 0 := by
   by_cases he : (eNum s).2.e = 0
   ·exact he
   ·exact absurd (eNum_z he) hn0
  right
  by_cases hn1 : (eNum s).1 = 1
  ·left
   have hr : rSmall s' = eNum s' := rSmall_v (by omega)
   have hk : eKind s = (eNum s).2 := by unfold eKind; rw [hn1]; exact eWrong_false _
   refine ⟨he, ?_, ?_⟩
   ·unfold eEntry
    rw [hk, if_neg (fun q => q.elim (fun q => q he) hn0)]
    rfl
   ·unfold rEntry
    rw [hr, if_neg (by omega), if_pos (by omega)]
  ·right
   have hk : eKind s = eWrong true (eNum s).2 := by unfold eKind; rw [decide_eq_true hn0, decide_eq_true hn1]; rfl
   refine ⟨he, ?_, (rSmall s').1, ?_⟩
   ·unfold eEntry
    rw [hk, if_pos (.inl (eWrong_true _))]
   ·have hx := rSmall_x (s := s') (a := 0) (b := 1) (by omega) (by omega) (by omega)
    unfold rEntry
    rw [if_neg (by omega), if_neg (by omega), rSmall_2]
theorem eNum_st {s : EyeS} (h : ¬ s.e = 0) : (eNum s).2 = s := by unfold eNum; rw [if_neg h]
theorem sim_entry : Sim EnBad eEntry rEntry where
 le s s' h1 h2 := by
  have hn := sim_num.le s s' h1 h2
  rcases entry_cases h1 h2 with ⟨a, b⟩ | ⟨_, a, b⟩ | ⟨_, a, v, b⟩
  ·rw [a, b]; exact hn
  ·rw [a, b]; exact sim_bentry.le _ _ hn.1 hn.2
  ·rw [a, b]
   exact ⟨by rw [(eWrong_l _ _).1, (eWrong_l _ _).1]; exact hn.1, eWrong_e _ hn.2⟩
 st s hs := by
  have hn := eNum_st hs
  rcases entry_cases (s := s) (s' := s) rfl rfl with ⟨a, _⟩ | ⟨q, _⟩ | ⟨q, _⟩
  ·rw [a, hn]; exact ⟨rfl, rfl⟩
  ·rw [hn] at q; exact absurd q hs
  ·rw [hn] at q; exact absurd q hs
 mo s hs := by
  have hn := sim_num.mo s hs
  rcases entry_cases (s := s) (s' := s) rfl rfl with ⟨a, _⟩ | ⟨_, a, _⟩ | ⟨_, a, _⟩
  ·rw [a]; exact hn
  ·rw [a]; exact sim_bentry.mo _ hn
  ·rw [a]; exact (eWrong_l true (eNum s).2).2.trans hn
 mo' s hs := by
  have hn := sim_num.mo s hs
  rcases entry_cases (s := s) (s' := s) rfl rfl with ⟨_, a⟩ | ⟨_, _, a⟩ | ⟨_, _, v, a⟩
  ·rw [a]; exact hn
  ·rw [a]; exact sim_bentry.mo' _ hn
  ·rw [a]; exact (eWrong_l true (eNum s).2).2.trans hn
 eq s s' h1 h2 h3 := by
  have hn := sim_num.le s s' h1 h2
  rcases entry_cases h1 h2 with ⟨a, b⟩ | ⟨_, a, b⟩ | ⟨_, a, v, b⟩
  ·rw [a, b]; exact .inl ⟨rfl, fun h => by show (eNum s).2.o = (eNum s').2.o; rw [eNum_o, eNum_o]; exact h⟩
  ·rw [a] at h3 ⊢
   rw [b]
   exact (sim_bentry.eq _ _ hn.1 hn.2 h3).imp (fun q => ⟨q.1, fun h => q.2 (by rw [eNum_o, eNum_o]; exact h)⟩) id
  ·rw [a] at h3; exact absurd h3 (eWrong_true _)
abbrev enOf (x : EnD) : EntD := ⟨x.1, x.2.1, x.2.2.1, x.2.2.2⟩
def trOf (en : EyeS → EnD × EyeS) : EyeS → TrD × EyeS := FM (fun x : Int × EnD => (⟨x.1, enOf x.2⟩ : TrD)) (PR eNum en)
abbrev eTr := trOf eEntry
abbrev rTr := trOf rEntry
def TrBad (x : TrD) : Prop := mayTr x = false
theorem sim_tr : Sim TrBad eTr rTr := (sim_num.pr sim_entry).fm _ _ (fun x h => by
 have h0 : EnBad x.2 := h.elim False.elim id
 show mayTr _ = false
 unfold mayTr
 rw [show mayE (enOf x.2).f0 (enOf x.2).f1 (enOf x.2).f2 (enOf x.2).f3 = false from h0, Bool.and_false])
def eYes (s : EyeS) : Bool × EyeS := (decide ((eNum s).1 = 1), eKind s)
theorem eKind_le {s s' : EyeS} (h1 : s.l = s'.l) (h2 : s.e = s'.e) : (eKind s).l = (eKind s').l ∧ (eKind s).e = (eKind s').e := by
 obtain ⟨a, b⟩ := sim_num.le s s' h1 h2
 unfold eKind
 rw [(eWrong_l _ _).1, (eWrong_l _ _).1, eNum_v h1 h2]
 exact ⟨a, eWrong_e _ b⟩
theorem eKind_o (s : EyeS) : (eKind s).o = s.o := by unfold eKind; rw [(eWrong_l _ _).2, eNum_o]
theorem sim_yes : Sim (fun _ => False) eYes eYes where
 le s s' h1 h2 := eKind_le h1 h2
 st s hs := by
  have hk : eKind s = s := by unfold eKind; rw [eNum_st hs]; exact eWrong_st _ hs
  show (eKind s).l = s.l ∧ (eKind s).e = s.e
  rw [hk]
  exact ⟨rfl, rfl⟩
 mo s hs := (eKind_o s).trans hs
 mo' s hs := (eKind_o s).trans hs
 eq s s' h1 h2 _ := .inl ⟨by show decide _ = decide _; rw [eNum_v h1 h2], fun h => by show (eKind s).o = (eKind s').o; rw [eKind_o, eKind_o]; exact h⟩
def ptOf (sm : EyeS → Int × EyeS) : EyeS → PartD × EyeS := FM (fun x : Int × Int × Int × List Int => (⟨x.1, x.2.1, x.2.2.1, x.2.2.2⟩ : PartD)) (PR eNum (PR sm (PR sm eData)))
def PtBad (p : PartD) : Prop := mayPt p = false
theorem sim_part : Sim PtBad (ptOf eSmall) (ptOf rSmall) := (sim_num.pr (sim_small.pr (sim_small.pr sim_data))).fm _ _ (fun x h => by
 show mayPt _ = false
 unfold mayPt
 by_cases hm : inB 1 4096 [x.2.2.1] = true
 ·rcases h with h | h | h | h
  ·exact h.elim
  ·have h0 : inB 0 (x.2.2.1 - 1) [x.2.1] = false := by
    simp only [inB, List.all_cons, List.all_nil, Bool.and_true, Bool.and_eq_true, decide_eq_true_eq] at hm
    rcases h with h | h
    ·rw [h]; simp [inB]
    ·rw [h]; simp [inB]; omega
   show (inB 0 1099511627776 [x.1] && (inB 1 4096 [x.2.2.1] && (inB 0 (x.2.2.1 - 1) [x.2.1] && _))) = false
   rw [h0]; simp
  ·rcases h with h | h <;> (rw [h] at hm; cases hm)
  ·exact h.elim
 ·show (inB 0 1099511627776 [x.1] && (inB 1 4096 [x.2.2.1] && _)) = false
  rw [Bool.eq_false_iff.2 hm]; simp)
def mBody (sm : EyeS → Int × EyeS) (en : EyeS → EnD × EyeS) (ls : EyeS → List TrD × EyeS) (k : Int) : EyeS → MsgD × EyeS :=
 if k = 1 then FM (fun x : Int × Int × Int × Int × Int => (⟨1, x.1, x.2.1, x.2.2.1, x.2.2.2.1, x.2.2.2.2, 0, false, [], zE, zP⟩ : MsgD)) (PR sm (PR sm (PR eNum (PR eNum eNum))))
 else if k = 2 then FM (fun x : Int × Int × Int × Bool => (⟨2, x.1, x.2.1, x.2.2.1, 0, 0, 0, x.2.2.2, [], zE, zP⟩ : MsgD)) (PR sm (PR sm (PR eNum eYes)))
 else if k = 3 then FM (fun x : Int × Int × Int × Int × Int × Int × List TrD => (⟨3, x.1, x.2.1, x.2.2.1, x.2.2.2.1, x.2.2.2.2.1, x.2.2.2.2.2.1, false, x.2.2.2.2.2.2, zE, zP⟩ : MsgD)) (PR sm (PR sm (PR eNum (PR eNum (PR eNum (PR eNum ls))))))
 else if k = 4 then FM (fun x : Int × Int × Int × Bool × Int => (⟨4, x.1, x.2.1, x.2.2.1, x.2.2.2.2, 0, 0, x.2.2.2.1, [], zE, zP⟩ : MsgD)) (PR sm (PR sm (PR eNum (PR eYes eNum))))
 else if k = 5 then FM (fun x : Int × Int × Int × Int × Int × PartD => (⟨5, x.1, x.2.1, x.2.2.1, x.2.2.2.1, x.2.2.2.2.1, 0, false, [], zE, x.2.2.2.2.2⟩ : MsgD)) (PR sm (PR sm (PR eNum (PR eNum (PR eNum (ptOf sm))))))
 else if k = 6 then FM (fun x : Int × Int × EnD => (⟨6, x.1, x.2.1, 0, 0, 0, 0, false, [], enOf x.2.2, zP⟩ : MsgD)) (PR sm (PR sm en))
 else FM (fun x : Int × Int × Int => (⟨k, x.1, x.2.1, x.2.2, 0, 0, 0, false, [], zE, zP⟩ : MsgD)) (PR sm (PR sm eNum))
theorem may_from {m : MsgD} (h : SmBad m.f1) : mayMs m = false := by unfold mayMs; rw [smBad_from h]; rfl
theorem may_to {m : MsgD} (h : SmBad m.f2) : mayMs m = false := by unfold mayMs; rw [smBad_from h]; simp
theorem may_list {m : MsgD} (h : ∃ x ∈ m.f8, TrBad x) : mayMs m = false := by
 obtain ⟨x, hx, hb⟩ := h
 have : m.f8.all mayTr = false := by
  rw [Bool.eq_false_iff]
  intro q
  have := List.all_eq_true.1 q x hx
  rw [show mayTr x = false from hb] at this
  cases this
 unfold mayMs; rw [this]; simp
theorem may_part {m : MsgD} (h0 : m.f0 = 5) (h : PtBad m.f10) : mayMs m = false := by
 unfold mayMs; rw [show mayPt m.f10 = false from h, h0]; simp
theorem may_ent {m : MsgD} (h0 : m.f0 = 6) (h : mayE m.f9.f0 m.f9.f1 m.f9.f2 m.f9.f3 = false) : mayMs m = false := by
 unfold mayMs; rw [h, h0]; simp
def MsBad (m : MsgD) : Prop := mayMs m = false
theorem sim_body (k : Int) : Sim (fun m => isKind k = true → MsBad m) (mBody eSmall eEntry (eList eTr) k) (mBody rSmall rEntry (eList rTr) k) := by
 unfold mBody
 split
 ·exact (sim_small.pr (sim_small.pr (sim_num.pr (sim_num.pr sim_num)))).fm _ _ (fun x h _ => by
   rcases h with h | h | h | h | h
   ·exact may_from h
   ·exact may_to h
   all_goals exact h.elim)
 split
 ·exact (sim_small.pr (sim_small.pr (sim_num.pr sim_yes))).fm _ _ (fun x h _ => by
   rcases h with h | h | h | h
   ·exact may_from h
   ·exact may_to h
   all_goals exact h.elim)
 split
 ·exact (sim_small.pr (sim_small.pr (sim_num.pr (sim_num.pr (sim_num.pr (sim_num.pr (sim_list sim_tr))))))).fm _ _ (fun x h _ => by
   rcases h with h | h | h | h | h | h | h
   ·exact may_from h
   ·exact may_to h
   ·exact h.elim
   ·exact h.elim
   ·exact h.elim
   ·exact h.elim
   ·exact may_list h)
 split
 ·exact (sim_small.pr (sim_small.pr (sim_num.pr (sim_yes.pr sim_num)))).fm _ _ (fun x h _ => by
   rcases h with h | h | h | h | h
   ·exact may_from h
   ·exact may_to h
   all_goals exact h.elim)
 split
 ·exact (sim_small.pr (sim_small.pr (sim_num.pr (sim_num.pr (sim_num.pr sim_part))))).fm _ _ (fun x h _ => by
   rcases h with h | h | h | h | h | h
   ·exact may_from h
   ·exact may_to h
   ·exact h.elim
   ·exact h.elim
   ·exact h.elim
   ·exact may_part rfl h)
 split
 ·exact (sim_small.pr (sim_small.pr sim_entry)).fm _ _ (fun x h _ => by
   rcases h with h | h | h
   ·exact may_from h
   ·exact may_to h
   ·exact may_ent rfl h)
 ·exact (sim_small.pr (sim_small.pr sim_num)).fm _ _ (fun x h hk => by
   unfold isKind at hk
   simp only [Bool.and_eq_true, decide_eq_true_eq] at hk
   omega)
theorem Sim.st' (h : Sim b1 g g') (s : EyeS) (hs : ¬ s.e = 0) : (g' s).2.l = s.l ∧ (g' s).2.e = s.e := by
 obtain ⟨a, b⟩ := h.le s s rfl rfl
 obtain ⟨c, d⟩ := h.st s hs
 exact ⟨a.symm.trans c, b.symm.trans d⟩
def notKind (k : Int) : Bool := decide (k < 1) || decide (6 < k)
theorem notKind_is (k : Int) : notKind k = !isKind k := by
 unfold notKind isKind
 rw [Bool.eq_iff_iff]
 simp
 try omega
def eMk (s : EyeS) : EyeS := eWrong (notKind (eNum s).1) (eNum s).2
def rMk (s : EyeS) : EyeS := eWrong (notKind (rSmall s).1) (rSmall s).2
def eMsg (s : EyeS) : MsgD × EyeS := if ¬ (eMk s).e = 0 then (zM, eMk s) else mBody eSmall eEntry (eList eTr) (eNum s).1 (eMk s)
def rMsg (s : EyeS) : MsgD × EyeS := mBody rSmall rEntry (eList rTr) (rSmall s).1 (rMk s)
theorem msg_cases {s s' : EyeS} (h1 : s.l = s'.l) (h2 : s.e = s'.e) :
  (eMk s).l = (rMk s').l ∧ (eMk s).e = (rMk s').e ∧ (s.o = s'.o → (eMk s).o = (rMk s').o) ∧ ((eMk s).e = 0 → (eNum s).1 = (rSmall s').1 ∧ isKind (eNum s).1 = true) := by
 have hv := eNum_v h1 h2
 obtain ⟨a, b⟩ := sim_num.le s s' h1 h2
 have hb : notKind (eNum s).1 = notKind (rSmall s').1 := by
  by_cases hr : 1 ≤ (eNum s).1 ∧ (eNum s).1 ≤ 6
  ·rw [rSmall_v (by omega), hv]
  ·have hx := rSmall_x (s := s') (a := 1) (b := 6) (by omega) (by omega) (by omega)
   unfold notKind
   rw [Bool.eq_iff_iff]
   simp
   omega
 unfold eMk rMk
 rw [(eWrong_l _ _).1, (eWrong_l _ _).1, (eWrong_l _ _).2, (eWrong_l _ _).2, rSmall_2, hb]
 refine ⟨a, eWrong_e _ b, fun h => by rw [eNum_o, eNum_o]; exact h, fun h => ?_⟩
 cases hn : notKind (rSmall s').1 with
 | true => rw [hn] at h; exact absurd h (eWrong_true _)
 | false =>
  have hk : isKind (eNum s).1 = true := by
   rw [← hb, notKind_is] at hn
   simpa using hn
  refine ⟨?_, hk⟩
  unfold isKind at hk
  simp only [Bool.and_eq_true, decide_eq_true_eq] at hk
  rw [rSmall_v (by omega), hv]
theorem sim_msg : Sim MsBad eMsg rMsg where
 le s s' h1 h2 := by
  obtain ⟨a, b, c, d⟩ := msg_cases h1 h2
  unfold eMsg rMsg
  by_cases he : (eMk s).e = 0
  ·rw [if_neg (fun q => q he), (d he).1]
   exact (sim_body _).le _ _ a b
  ·rw [if_pos he]
   obtain ⟨p, q⟩ := (sim_body (rSmall s').1).st' (rMk s') (fun q => he (b.trans q))
   exact ⟨a.trans p.symm, b.trans q.symm⟩
 st s hs := by
  have hk : eMk s = s := by unfold eMk; rw [eNum_st hs]; exact eWrong_st _ hs
  unfold eMsg
  rw [hk, if_pos hs]
  exact ⟨rfl, rfl⟩
 mo s hs := by
  have ho : (eMk s).o = true := by unfold eMk; rw [(eWrong_l _ _).2, eNum_o]; exact hs
  unfold eMsg
  split
  ·exact ho
  ·exact (sim_body _).mo _ ho
 mo' s hs := (sim_body _).mo' _ (by unfold rMk; rw [(eWrong_l _ _).2, rSmall_2, eNum_o]; exact hs)
 eq s s' h1 h2 h3 := by
  obtain ⟨a, b, c, d⟩ := msg_cases h1 h2
  unfold eMsg at h3 ⊢
  unfold rMsg
  by_cases he : (eMk s).e = 0
  ·rw [if_neg (fun q => q he)] at h3 ⊢
   rw [← (d he).1]
   exact ((sim_body _).eq _ _ a b h3).imp (fun q => ⟨q.1, fun h => q.2 (c h)⟩) (fun q => ⟨q.1, q.2.imp id (fun r => r (d he).2)⟩)
  ·rw [if_pos he] at h3
   exact absurd h3 he
def rEnd (s : EyeS) : EyeS := if s.e = 0 ∧ 0 < s.l.length then { s with e := 13 } else s
def wholeOf {α : Type} (z : α) (r : α × EyeS) (may all : Bool) : α × Int := if eEnds r.2 may all = 0 then (r.1, 0) else (z, eEnds r.2 may all)
theorem ends_eq {α : Type} {may : α → Bool} {g g' : EyeS → α × EyeS} (h : Sim (fun v => may v = false) g g') (l : List Int) (z : α) :
  wholeOf z (g ⟨l, 0, false⟩) (may (g ⟨l, 0, false⟩).1) true = wholeOf z ((g' ⟨l, 0, false⟩).1, rEnd (g' ⟨l, 0, false⟩).2) (may (g' ⟨l, 0, false⟩).1) false := by
 obtain ⟨a, b⟩ := h.le ⟨l, 0, false⟩ ⟨l, 0, false⟩ rfl rfl
 have q := h.eq ⟨l, 0, false⟩ ⟨l, 0, false⟩ rfl rfl
 obtain ⟨r, hr⟩ : ∃ r, g ⟨l, 0, false⟩ = r := ⟨_, rfl⟩
 obtain ⟨r', hr'⟩ : ∃ r, g' ⟨l, 0, false⟩ = r := ⟨_, rfl⟩
 rw [hr, hr'] at a b q ⊢
 clear hr hr'
 obtain ⟨v, s⟩ := r
 obtain ⟨v', s'⟩ := r'
 simp only at a b q ⊢
 unfold wholeOf
 simp only
 by_cases he : s.e = 0
 ·by_cases hl : 0 < s.l.length
  ·have e1 : eEnds s (may v) true = 13 := by unfold eEnds; rw [if_neg (fun q => q he), if_pos ⟨rfl, hl⟩]
   have e2 : eEnds (rEnd s') (may v') false = 13 := by
    have er : rEnd s' = { s' with e := 13 } := by unfold rEnd; rw [if_pos ⟨b ▸ he, a ▸ hl⟩]
    rw [er]
    rfl
   rw [e1, e2]; rfl
  ·have e1 : eEnds s (may v) true = if s.o = true ∨ may v = false then 40 else 0 := by unfold eEnds; rw [if_neg (fun q => q he), if_neg (fun q => hl q.2)]
   have e2 : eEnds (rEnd s') (may v') false = if s'.o = true ∨ may v' = false then 40 else 0 := by
    have er : rEnd s' = s' := by unfold rEnd; rw [if_neg (fun q => hl (a ▸ q.2))]
    rw [er, eEnds_false, if_pos (b ▸ he)]
   rcases q he with ⟨q1, q2⟩ | ⟨q1, q2⟩
   ·rw [e1, e2, q1, q2 trivial]
   ·rw [e1, e2, if_pos (show s.o = true ∨ may v = false from .inl q1), if_pos q2]; rfl
 ·have e1 : eEnds s (may v) true = s.e := by unfold eEnds; rw [if_pos he]
  have e2 : eEnds (rEnd s') (may v') false = s.e := by
   have er : rEnd s' = s' := by unfold rEnd; rw [if_neg (fun q => he (b.trans q.1))]
   rw [er, eEnds_false, if_neg (fun q => he (b.trans q)), b]
  rw [e1, e2, if_neg he, if_neg he]
def mayEn (x : EnD) : Bool := mayE x.1 x.2.1 x.2.2.1 x.2.2.2
theorem takeEn_w (l : List Int) : takeEn l = wholeOf (0, 0, 0, []) (eEntry ⟨l, 0, false⟩) (mayEn (eEntry ⟨l, 0, false⟩).1) true := rfl
theorem takeEn_r (l : List Int) : takeEn l = wholeOf (0, 0, 0, []) ((rEntry ⟨l, 0, false⟩).1, rEnd (rEntry ⟨l, 0, false⟩).2) (mayEn (rEntry ⟨l, 0, false⟩).1) false := (takeEn_w l).trans (ends_eq (may := mayEn) sim_entry l _)
def takeMs (l : List Int) : MsgD × Int := wholeOf zM (eMsg ⟨l, 0, false⟩) (mayMs (eMsg ⟨l, 0, false⟩).1) true
theorem takeMs_r (l : List Int) : takeMs l = wholeOf zM ((rMsg ⟨l, 0, false⟩).1, rEnd (rMsg ⟨l, 0, false⟩).2) (mayMs (rMsg ⟨l, 0, false⟩).1) false := ends_eq (may := mayMs) sim_msg l _
end Go.Proofs.YtgiefblcckikeaaGreat.M
end

section
/- The pen writes a message (printed by genpenm04.py). -/
set_option maxRecDepth 100000
attribute [local irreducible] Go.wpStill
namespace Go.Proofs.YtgiefblcckikeaaGreat.M
open Go.RowKit Go.Proofs.YtgiefblcckikeaaGreatW.PrintWords Go.Proofs.YtgiefblcckikeaaGreatW.PrintLast Go.Proofs.YtgiefblcckikeaaGreatW.PrintMore Go.Proofs.YtgiefblcckikeaaGreat.G
def yesB (b : Bool) : List Int := numB (if b = true then 1 else 0)
def trB (x : TrD) : List Int := numB x.f0 ++ entB x.f1.f0 x.f1.f1 x.f1.f2 x.f1.f3
def tailB (m : MsgD) : List Int := if m.f0 = 1 then numsB [m.f3, m.f4, m.f5] else if m.f0 = 2 then numB m.f3 ++ yesB m.f7 else if m.f0 = 3 then numsB [m.f3, m.f4, m.f5, m.f6] ++ numB m.f8.length ++ m.f8.flatMap trB else if m.f0 = 4 then numB m.f3 ++ yesB m.f7 ++ numB m.f4 else if m.f0 = 5 then numsB [m.f3, m.f4, m.f5, m.f10.f0, m.f10.f1, m.f10.f2] ++ numB m.f10.f3.length ++ m.f10.f3 else entB m.f9.f0 m.f9.f1 m.f9.f2 m.f9.f3
def msgB (m : MsgD) : List Int := numsB [m.f0, m.f1, m.f2] ++ tailB m
structure OkM (m : MsgD) : Prop where
 h : okI [m.f0, m.f1, m.f2] = true
 t : okI [m.f3, m.f4, m.f5, m.f6] = true
 p : okI [m.f10.f0, m.f10.f1, m.f10.f2] = true
 e : okE m.f9.f0 m.f9.f1 m.f9.f2 m.f9.f3 = true
 l : ∀ x ∈ m.f8, isI64 x.f0 ∧ okE x.f1.f0 x.f1.f1 x.f1.f2 x.f1.f3 = true
theorem okI_cons {x : Int} {l : List Int} : okI (x :: l) = true ↔ isI64 x ∧ okI l = true := by simp [okI]
theorem MsBox.keep {W W' : World} {b p : Nat} {m : MsgD} {A8 A12 A16 : Option Addr} {c8 c12 c16 : Nat} (h : MsBox W b m A8 c8 A12 c12 A16 c16) (hk : KeepS (fun i => i = p) W W') (hb : b ≠ p) : MsBox W' b m A8 c8 A12 c12 A16 c16 := (hk.block b (Array.getElem?_eq_some_iff.1 h).1 hb).trans h
end Go.Proofs.YtgiefblcckikeaaGreat.M
end

section
/- A function that reads with a state at x, before its struct variable is laid; and the end of a frame. -/
set_option maxRecDepth 100000
namespace Go.Proofs.YtgiefblcckikeaaGreat.M
open Go.RowKit Go.Proofs.YtgiefblcckikeaaGreatW.PrintWords Go.Proofs.YtgiefblcckikeaaGreatW.PrintLast Go.Proofs.YtgiefblcckikeaaGreatW.PrintMore Go.Proofs.YtgiefblcckikeaaGreat.G
structure Fo (I : World → EyeS → Prop) (w0 w : World) (x T : Nat) (zs : Array Value) (s : EyeS) (W : World) : Prop where
 g0 : W.heap[w.heap.size]? = some (.cells zs T)
 i : I W s
 d : Below w0.heap.size w0 W
 q : KeepS (fun i => i = x) w W
 hz : w.heap.size < W.heap.size
 hx : x < w.heap.size
 hw : w0.heap.size ≤ x
 at_ : ∀ (W W' : World) (s : EyeS), W'.heap[x]? = W.heap[x]? → I W s → I W' s
section
variable {I : World → EyeS → Prop} {w0 w W W' : World} {x g T : Nat} {zs cs : Array Value} {s s' : EyeS} {P Q : World → Prop}
theorem Fo.start (hI : I w s) (hB : Below w0.heap.size w0 w) (hlt : x < w.heap.size) (hge : w0.heap.size ≤ x) (at_ : ∀ (W W' : World) (s : EyeS), W'.heap[x]? = W.heap[x]? → I W s → I W' s) : Fo I w0 w x T zs s (w.alloc (.cells zs T)) := by
 have hb := (Below.refl _ w).alloc (Nat.le_refl _) (.cells zs T)
 exact ⟨heap_alloc_new w _, at_ _ _ _ (hb.block x hlt) hI, hB.alloc hB.size _, KeepS.of_below _ hb, by simp, hlt, hge, at_⟩
theorem Fo.call (h : Fo I w0 w x T zs s W) (i : I W' s') (d : Below w0.heap.size w0 W') (k : KeepS (fun i => i = x) W W') : Fo I w0 w x T zs s' W' :=
 ⟨(k.block _ h.hz (by have := h.hx; omega)).trans h.g0, i, d, h.q.trans k, Nat.lt_of_lt_of_le h.hz k.size, h.hx, h.hw, h.at_⟩
theorem Fo.lay (h : Fo I w0 w x T zs s W) (cs : Array Value) : Fr I w0 w x W.heap.size T zs cs s (fun _ => True) (W.alloc (.cells cs T)) := by
 have hb := (Below.refl _ W).alloc (Nat.le_refl _) (.cells cs T)
 have hx := h.hx; have hz := h.hz; have hd := h.d.size
 exact ⟨(hb.block _ h.hz).trans h.g0, heap_alloc_new W _, h.at_ _ _ _ (hb.block x (by omega)) h.i, h.d.alloc hd _, h.q.then_base (hb.mono (by omega)), h.hz, by simp, h.hx, h.hw, Held.true _ _, h.at_⟩
theorem Fo.put (h : Fo I w0 w x T zs s W) (j : Nat) (v : Value) : Fo I w0 w x T (zs.setIfInBounds j v) s (W.setCell ⟨w.heap.size, j, none⟩ v) := by
 have hx := h.hx; have hz := h.hz; have hd := h.d.size; have hw := h.hw
 exact ⟨blk_put h.g0 j v rfl, h.at_ _ _ _ (Below.heap_setCell W ⟨w.heap.size, j, none⟩ v x (by show x ≠ w.heap.size; omega)) h.i, h.d.setCell (p := ⟨w.heap.size, j, none⟩) (by show w0.heap.size ≤ w.heap.size; omega) v, h.q.set (p := ⟨w.heap.size, j, none⟩) (.inr (Nat.le_refl _)) v, by rw [World.size_setCell]; exact hz, h.hx, h.hw, h.at_⟩
theorem Fo.done (h : Fo I w0 w x T zs s W) (hk : KeepS (fun k => k = w.heap.size) W W') : I W' s ∧ Below w0.heap.size w0 W' ∧ KeepS (fun i => i = x) w W' := by
 have hx := h.hx; have hz := h.hz; have hd := h.d.size; have hw := h.hw
 exact ⟨h.at_ _ _ _ (hk.block x (by omega) (by show ¬ x = w.heap.size; omega)) h.i, h.d.trans (hk.below hd (by rintro i rfl; omega)), h.q.then_base (hk.below (B := w.heap.size) (by omega) (by rintro i rfl; omega))⟩
theorem Fr.fin (h : Fr I w0 w x g T zs cs s P W) {cs' : Array Value} : (W.setRow w.heap.size cs').heap[w.heap.size]? = some (.cells cs' T) ∧ P (W.setRow w.heap.size cs') ∧ I (W.setRow w.heap.size cs') s ∧ Below w0.heap.size w0 (W.setRow w.heap.size cs') ∧ KeepS (fun i => i = x) w (W.setRow w.heap.size cs') := by
 have hk : KeepS (fun k => k = w.heap.size ∨ k = g) W (W.setRow w.heap.size cs') := ⟨rfl, rfl, rfl, by simp, fun i _ hi => setRow_other W w.heap.size i cs' (fun e => hi (.inl e))⟩
 exact ⟨setRow_heap W w.heap.size zs cs' T (0, 0) h.g0, h.done hk⟩
theorem Fo.fin (h : Fo I w0 w x T zs s W) {cs' : Array Value} : (W.setRow w.heap.size cs').heap[w.heap.size]? = some (.cells cs' T) ∧ I (W.setRow w.heap.size cs') s ∧ Below w0.heap.size w0 (W.setRow w.heap.size cs') ∧ KeepS (fun i => i = x) w (W.setRow w.heap.size cs') := by
 have hk : KeepS (fun k => k = w.heap.size) W (W.setRow w.heap.size cs') := ⟨rfl, rfl, rfl, by simp, fun i _ hi => setRow_other W w.heap.size i cs' (fun e => hi e)⟩
 exact ⟨setRow_heap W w.heap.size zs cs' T (0, 0) h.g0, h.done hk⟩
end
def MsP (I : World → EyeS → Prop) (w0 w : World) (x : Nat) (y : MsgD) (s' : EyeS) (e : Ending) (w' : World) : Prop := ∃ v8 v12 v16 : Value, e = .returned (.agg #[.int .i64 y.f0, .int .i64 y.f1, .int .i64 y.f2, .int .i64 y.f3, .int .i64 y.f4, .int .i64 y.f5, .int .i64 y.f6, .bool y.f7, v8, .int .i64 y.f9.f0, .int .i64 y.f9.f1, .int .i64 y.f9.f2, v12, .int .i64 y.f10.f0, .int .i64 y.f10.f1, .int .i64 y.f10.f2, v16]) ∧ Kd.R G.k63 63 w' w.heap.size (fun _ => True) v8 y.f8 ∧ Kd.R G.k26 26 w' w.heap.size (fun _ => True) v12 y.f9.f3 ∧ Kd.R (Kd.int .u8) 5 w' w.heap.size (fun _ => True) v16 y.f10.f3 ∧ I w' s' ∧ Below w0.heap.size w0 w' ∧ KeepS (fun i => i = x) w w'
end Go.Proofs.YtgiefblcckikeaaGreat.M
end

section
/- The eye's lists: yes, termed, a list of termed (printed by geneyey04.py). -/
set_option maxRecDepth 100000
attribute [local irreducible] Go.wpStill
namespace Go.Proofs.YtgiefblcckikeaaGreat.M
open Go.RowKit Go.Proofs.YtgiefblcckikeaaGreatW.PrintWords Go.Proofs.YtgiefblcckikeaaGreatW.PrintLast Go.Proofs.YtgiefblcckikeaaGreatW.PrintMore Go.Proofs.YtgiefblcckikeaaGreat.G
theorem eYes_is {w0 w : World} {x : Nat} {s : EyeS} (hI : IsEye w0 w x s) (hB : Below w0.heap.size w0 w) (hok : okS s) :
  Calls Tryz.prog 125 #[.pointer (some ⟨x, 0, none⟩)] w fun e w' => EyP w0 w x (.bool (eYes s).1) (eYes s).2 e w' := by
 have HN := Lib.hid (eNum_is hI hB hok)
 obtain ⟨k, hk⟩ : ∃ k, (eNum s).1 = k := ⟨_, rfl⟩
 obtain ⟨s1, hs1⟩ : ∃ s1, (eNum s).2 = s1 := ⟨_, rfl⟩
 have HF := Lib.hid (show eYes s = (decide (k = 1), eWrong (decide (k ≠ 0) && decide (k ≠ 1)) s1) by unfold eYes eKind; rw [hk, hs1])
 rw [hk, hs1] at HN
 clear hk hs1 hI hB hok
 by_cases ha : k = 0
 ·have q0 : (k != 0) = false := by rw [ha]; rfl
  have q2 : (k == 1) = false := by rw [ha]; rfl
  have HR := Lib.hid (show eYes s = (false, eWrong false s1) by rw [HF.out]; simp [ha])
  clear ha HF
  go_enter Tryz.func125, Tryz.ntmps125
  go_wp2_with fail
  refine HN.out.mono ?_
  rintro e w1 ⟨rfl, h1, h2, h3⟩
  have HW := Lib.hid (eWrong_is h1 h2 false); have H3 := Lib.hid h3
  clear h1 h2 h3 HN
  go_wp2_with fail
  refine HW.out.mono ?_
  rintro e w2 ⟨rfl, h1, h2, h3⟩
  have G1 := Lib.hid h1; have G2 := Lib.hid h2; have G3 := Lib.hid (H3.out.trans h3)
  clear h1 h2 h3 HW H3
  go_wp2_with fail
  go_ret
  exact ⟨by rw [HR.out]; rfl, by rw [HR.out]; exact G1.out, G2.out, G3.out⟩
 ·by_cases hb : k = 1
  ·have q0 : (k != 0) = true := bne_iff_ne.2 ha
   have q1 : (k != 1) = false := by rw [hb]; rfl
   have q2 : (k == 1) = true := by rw [hb]; rfl
   have HR := Lib.hid (show eYes s = (true, eWrong false s1) by rw [HF.out]; simp [ha, hb])
   clear ha hb HF
   go_enter Tryz.func125, Tryz.ntmps125
   go_wp2_with fail
   refine HN.out.mono ?_
   rintro e w1 ⟨rfl, h1, h2, h3⟩
   have HW := Lib.hid (eWrong_is h1 h2 false); have H3 := Lib.hid h3
   clear h1 h2 h3 HN
   go_wp2_with fail
   refine HW.out.mono ?_
   rintro e w2 ⟨rfl, h1, h2, h3⟩
   have G1 := Lib.hid h1; have G2 := Lib.hid h2; have G3 := Lib.hid (H3.out.trans h3)
   clear h1 h2 h3 HW H3
   go_wp2_with fail
   go_ret
   exact ⟨by rw [HR.out]; rfl, by rw [HR.out]; exact G1.out, G2.out, G3.out⟩
  ·have q0 : (k != 0) = true := bne_iff_ne.2 ha
   have q1 : (k != 1) = true := bne_iff_ne.2 hb
   have q2 : (k == 1) = false := beq_eq_false_iff_ne.2 hb
   have HR := Lib.hid (show eYes s = (false, eWrong true s1) by rw [HF.out]; simp [ha, hb])
   clear ha hb HF
   go_enter Tryz.func125, Tryz.ntmps125
   go_wp2_with fail
   refine HN.out.mono ?_
   rintro e w1 ⟨rfl, h1, h2, h3⟩
   have HW := Lib.hid (eWrong_is h1 h2 true); have H3 := Lib.hid h3
   clear h1 h2 h3 HN
   go_wp2_with fail
   refine HW.out.mono ?_
   rintro e w2 ⟨rfl, h1, h2, h3⟩
   have G1 := Lib.hid h1; have G2 := Lib.hid h2; have G3 := Lib.hid (H3.out.trans h3)
   clear h1 h2 h3 HW H3
   go_wp2_with fail
   go_ret
   exact ⟨by rw [HR.out]; rfl, by rw [HR.out]; exact G1.out, G2.out, G3.out⟩
def TrP (w0 w : World) (x : Nat) (y : TrD) (s' : EyeS) (e : Ending) (w' : World) : Prop := ∃ v : Value, e = .returned (.agg #[.int .i64 y.f0, .int .i64 y.f1.f0, .int .i64 y.f1.f1, .int .i64 y.f1.f2, v]) ∧ Kd.S G.k26 26 w' w.heap.size (fun _ => True) v y.f1.f3 ∧ IsEye w0 w' x s' ∧ Below w0.heap.size w0 w' ∧ KeepS (fun i => i = x) w w'
set_option maxHeartbeats 1000000 in
theorem eTermed_is {w0 w : World} {x : Nat} {s : EyeS} (hI : IsEye w0 w x s) (hB : Below w0.heap.size w0 w) (hok : okS s) :
  Calls Tryz.prog 127 #[.pointer (some ⟨x, 0, none⟩)] w fun e w' => TrP w0 w x (eTr s).1 (eTr s).2 e w' := by
 have HT1 := Lib.hid (Fo.start (I := fun W s => IsEye w0 W x s) (T := 63) (zs := #[.int .i64 0, .int .i64 0, .int .i64 0, .int .i64 0, .slice none 0 0]) hI hB hI.lt hI.ge (fun _ _ _ e h => h.at e))
 obtain ⟨a, ha⟩ : ∃ a, (eNum s).1 = a := ⟨_, rfl⟩
 obtain ⟨s1, hs1⟩ : ∃ s1, (eNum s).2 = s1 := ⟨_, rfl⟩
 have ho1 := okS_num hok
 rw [hs1] at ho1
 obtain ⟨y, hy⟩ : ∃ y, (eEntry s1).1 = y := ⟨_, rfl⟩
 obtain ⟨s2, hs2⟩ : ∃ s2, (eEntry s1).2 = s2 := ⟨_, rfl⟩
 have HF := Lib.hid (show eTr s = (⟨a, enOf y⟩, s2) by unfold eTr trOf FM PR; rw [ha, hs1, hy, hs2])
 obtain ⟨y0, y1, y2, yl⟩ := y
 have HO0 := Lib.hid hok; have HO1 := Lib.hid ho1; have HE1 := Lib.hid (And.intro ha hs1); have HE2 := Lib.hid (And.intro hy hs2)
 clear hI hB hok ho1 ha hs1 hy hs2
 go_enter Tryz.func127, Tryz.ntmps127
 go_wp2_with fail
 obtain ⟨w1, hw1⟩ : ∃ w1, w.alloc (.cells #[.int .i64 0, .int .i64 0, .int .i64 0, .int .i64 0, .slice none 0 0] 63) = w1 := ⟨_, rfl⟩
 rw [hw1] at HT1 ⊢
 clear hw1
 have h4 := eNum_is HT1.out.i HT1.out.d HO0.out
 rw [HE1.out.1, HE1.out.2] at h4
 refine h4.mono ?_
 rintro e w2 ⟨rfl, h1, h2, h3⟩
 have HT2 := Lib.hid (HT1.out.call h1 h2 h3)
 clear h1 h2 h3 h4 HT1
 go_wp2_with fail
 have h4 := eEntry_is HT2.out.i HT2.out.d HO1.out
 rw [HE2.out.1, HE2.out.2] at h4
 refine h4.mono ?_
 rintro e w3 ⟨v_, rfl, hv, h1, h2, h3⟩
 have hv : Kd.S G.k26 26 w3 w2.heap.size (fun _ => True) v_ yl := hv
 obtain ⟨A, c, rfl⟩ := Kd.S_slice hv
 have HV := Lib.hid hv
 have HT3 := Lib.hid (HT2.out.call h1 h2 h3)
 have HZ := Lib.hid HT2.out.hz
 clear h1 h2 h3 h4 hv HT2
 have d0 : w3.cell? ⟨w.heap.size, 0, none⟩ = some (.int .i64 0) := (blk_cell HT3.out.g0 0).trans rfl
 have z0 : w3.frozen? ⟨w.heap.size, 0, none⟩ = false := blk_frozen HT3.out.g0 0
 have d1 : w3.cell? ⟨w.heap.size, 1, none⟩ = some (.int .i64 0) := (blk_cell HT3.out.g0 1).trans rfl
 have z1 : w3.frozen? ⟨w.heap.size, 1, none⟩ = false := blk_frozen HT3.out.g0 1
 have d2 : w3.cell? ⟨w.heap.size, 2, none⟩ = some (.int .i64 0) := (blk_cell HT3.out.g0 2).trans rfl
 have z2 : w3.frozen? ⟨w.heap.size, 2, none⟩ = false := blk_frozen HT3.out.g0 2
 have d3 : w3.cell? ⟨w.heap.size, 3, none⟩ = some (.int .i64 0) := (blk_cell HT3.out.g0 3).trans rfl
 have z3 : w3.frozen? ⟨w.heap.size, 3, none⟩ = false := blk_frozen HT3.out.g0 3
 have d4 : w3.cell? ⟨w.heap.size, 4, none⟩ = some (.slice none 0 0) := (blk_cell HT3.out.g0 4).trans rfl
 have z4 : w3.frozen? ⟨w.heap.size, 4, none⟩ = false := blk_frozen HT3.out.g0 4
 go_wp2_with fail
 have HEB := Lib.hid (blk_put (cs := #[.int .i64 a, .int .i64 y0, .int .i64 y1, .int .i64 y2, .slice none 0 0]) (blk_put (cs := #[.int .i64 a, .int .i64 y0, .int .i64 y1, .int .i64 0, .slice none 0 0]) (blk_put (cs := #[.int .i64 a, .int .i64 y0, .int .i64 0, .int .i64 0, .slice none 0 0]) (blk_put (cs := #[.int .i64 a, .int .i64 0, .int .i64 0, .int .i64 0, .slice none 0 0]) (blk_put (cs := #[.int .i64 0, .int .i64 0, .int .i64 0, .int .i64 0, .slice none 0 0]) HT3.out.g0 0 (.int .i64 a) rfl) 1 (.int .i64 y0) rfl) 2 (.int .i64 y1) rfl) 3 (.int .i64 y2) rfl) 4 (.slice A yl.length c) rfl)
 have HKS := Lib.hid ((((((KeepS.refl (fun k => k = w.heap.size) w3).set (p := ⟨w.heap.size, 0, none⟩) (.inl rfl) (.int .i64 a)).set (p := ⟨w.heap.size, 1, none⟩) (.inl rfl) (.int .i64 y0)).set (p := ⟨w.heap.size, 2, none⟩) (.inl rfl) (.int .i64 y1)).set (p := ⟨w.heap.size, 3, none⟩) (.inl rfl) (.int .i64 y2)).set (p := ⟨w.heap.size, 4, none⟩) (.inl rfl) (.slice A yl.length c))
 obtain ⟨W, hW⟩ : ∃ W, (((((w3.setCell ⟨w.heap.size, 0, none⟩ (.int .i64 a)).setCell ⟨w.heap.size, 1, none⟩ (.int .i64 y0)).setCell ⟨w.heap.size, 2, none⟩ (.int .i64 y1)).setCell ⟨w.heap.size, 3, none⟩ (.int .i64 y2)).setCell ⟨w.heap.size, 4, none⟩ (.slice A yl.length c)) = W := ⟨_, rfl⟩
 rw [hW] at HEB HKS ⊢
 clear hW
 refine bodyPost_ret (results_cell_row rfl _ _ w.heap.size 63 #[.int .i64 a, .int .i64 y0, .int .i64 y1, .int .i64 y2, .slice A yl.length c] (0, 0) _ rfl HEB.out Tryz.underlying63 rfl (by kernel_rfl)) rfl ?_
 rw [HF.out]
 obtain ⟨i, d, q⟩ := HT3.out.done HKS.out
 have hz := HZ.out
 exact ⟨_, rfl, Kd.S_mono (Kd.S_step (Kd.S_lower (Kd.S_bound HV.out) (Nat.le_of_lt hz)) (fun k hk hlt => HKS.out.block k hlt (fun (e : k = w.heap.size) => by have := hk.2.1; omega))) (fun _ _ => trivial), i, d, q⟩
theorem okS_tr {s : EyeS} (h : okS s) : okS (eTr s).2 := okS_entry (okS_num h)
def LiI_trs (g : EyeS → TrD × EyeS) (n : Int) (s0 : EyeS) (w0 w : World) (x : Nat) (v i : Value) (W : World) : Prop := ∃ (U : List TrD) (s : EyeS), i = .int .i64 (U.length : Int) ∧ U.length ≤ 4096 ∧ U.length ≤ n.toNat ∧ (s.e = 0 → n ≤ 4096) ∧ Kd.S G.k63 63 W w.heap.size (fun _ => True) v U ∧ IsEye w0 W x s ∧ Below w0.heap.size w0 W ∧ KeepS (fun i => i = x) w W ∧ okS s ∧ eList g s0 = (U ++ (eMany g (n.toNat - U.length) s).1, (eMany g (n.toNat - U.length) s).2)
set_option maxHeartbeats 2000000 in
theorem eList_trs {w0 w : World} {x : Nat} {s : EyeS} (hI : IsEye w0 w x s) (hB : Below w0.heap.size w0 w) (hok : okS s) :
  Calls Tryz.prog 126 #[.pointer (some ⟨x, 0, none⟩), .func (.func 127) #[.pointer (some ⟨x, 0, none⟩)] #[]] w fun e w' => LiP G.k63 63 w0 w x (eList eTr s).1 (eList eTr s).2 e w' := by
 have HN := Lib.hid (eNum_is hI hB hok)
 have HOK := Lib.hid (okS_num hok)
 have HLT := Lib.hid hI.lt
 have HGEW := Lib.hid (show w0.heap.size ≤ w.heap.size from hB.size)
 obtain ⟨n, hn⟩ : ∃ n, (eNum s).1 = n := ⟨_, rfl⟩
 obtain ⟨s1, hs1⟩ : ∃ s1, (eNum s).2 = s1 := ⟨_, rfl⟩
 have HCT := Lib.hid (show eCount s = eWrong (decide (n < 0) || decide (4096 < n)) s1 by unfold eCount; rw [hn, hs1])
 have Hapi.Termed := Lib.hid (show eList eTr s = eMany eTr n.toNat (eCount s) by unfold eList; rw [hn])
 rw [hn, hs1] at HN
 rw [hs1] at HOK
 clear hI hB hok hn hs1
 go_enter Tryz.func126, Tryz.ntmps126
 go_wp2_with fail
 refine HN.out.mono ?_
 rintro e w1 ⟨rfl, h1, h2, h3⟩
 have H1 := Lib.hid h1; have H2 := Lib.hid h2; have H3 := Lib.hid h3
 clear h1 h2 h3 HN
 go_upto_region 2 with fail
 go_cut [] (fun wx => IsEye w0 wx x (eCount s) ∧ Below w0.heap.size w0 wx ∧ KeepS (fun i => i = x) w wx)
 case first =>
  by_cases ha : n < 0
  ·have hq : decide (n < 0) = true := decide_eq_true ha
   have HW := Lib.hid (eWrong_is H1.out H2.out true)
   have HC2 := Lib.hid (show eCount s = eWrong true s1 by rw [HCT.out, hq, Bool.true_or])
   clear ha
   go_wp2_with fail
   refine HW.out.mono ?_
   rintro e w2 ⟨rfl, h1, h2, h3⟩
   have G1 := Lib.hid h1; have G2 := Lib.hid h2; have G3 := Lib.hid (H3.out.trans h3)
   clear h1 h2 h3
   go_wp2_with fail
   go_meet
   exact ⟨by rw [HC2.out]; exact G1.out, G2.out, G3.out⟩
  ·have hq : decide (n < 0) = false := decide_eq_false ha
   obtain ⟨b, hb⟩ : ∃ b, decide ((4096 : Int) < n) = b := ⟨_, rfl⟩
   have HW := Lib.hid (eWrong_is H1.out H2.out b)
   have HC2 := Lib.hid (show eCount s = eWrong b s1 by rw [HCT.out, hq, hb, Bool.false_or])
   clear ha
   go_wp2_with fail
   refine HW.out.mono ?_
   rintro e w2 ⟨rfl, h1, h2, h3⟩
   have G1 := Lib.hid h1; have G2 := Lib.hid h2; have G3 := Lib.hid (H3.out.trans h3)
   clear h1 h2 h3
   go_wp2_with fail
   go_meet
   exact ⟨by rw [HC2.out]; exact G1.out, G2.out, G3.out⟩
 case rest =>
  obtain ⟨h1, h2, h3⟩ := hcut
  have G1 := Lib.hid h1; have G2 := Lib.hid h2; have G3 := Lib.hid h3
  have HE0 := Lib.hid (show (eCount s).e = 0 → n ≤ 4096 by
   intro h
   rw [HCT.out] at h
   by_cases h5 : (4096 : Int) < n
   ·rw [decide_eq_true h5, Bool.or_true] at h
    unfold eWrong at h
    split at h
    ·cases h
    ·next h6 => exact absurd ⟨h, rfl⟩ h6
   ·omega)
  have HOC := Lib.hid (show okS (eCount s) by rw [HCT.out]; exact okS_wrong _ HOK.out)
  clear h1 h2 h3
  go_wp2_with fail
  go_loopw [6, 7] (fun v i wr => LiI_trs eTr n s w0 w x v i wr) (fun _ i _ => n.toNat - (intOf i).toNat)
  case atStart => exact ⟨[], eCount s, rfl, by simp, by simp, HE0.out, Kd.S_nil _ _ _ _ _, G1.out, G2.out, G3.out, HOC.out, by simpa using Hapi.Termed.out⟩
  case round =>
   obtain ⟨U, s2, rfl, hU, hUn, hE, hS, hI, hB, hK, hO, hF⟩ := hrel
   have HI := Lib.hid hI; have HB := Lib.hid hB; have HK := Lib.hid hK; have HO := Lib.hid hO; have HF := Lib.hid hF; have HS := Lib.hid hS; have HUN := Lib.hid hUn; have HE := Lib.hid hE
   obtain ⟨Av, cv, rfl⟩ := Kd.S_slice hS
   obtain ⟨A, c, g1, g2, g3, g4⟩ := hI
   have c1 : wr.cell? ⟨x, 1, none⟩ = some (.int .i64 s2.e) := by simp [World.cell?, g1]
   clear hB hK hO hF hS hUn hE g1 g2 g3 g4
   by_cases hlt : (U.length : Int) < n
   ·by_cases he : s2.e = 0
    ·have hq1 : decide ((U.length : Int) < n) = true := decide_eq_true hlt
     have hq2 : (s2.e == 0) = true := by rw [he]; rfl
     have HN4 := Lib.hid (HE.out he)
     have HG := Lib.hid (eTermed_is HI.out HB.out HO.out)
     have HGO := Lib.hid (okS_tr HO.out)
     obtain ⟨y, hy⟩ : ∃ y, (eTr s2).1 = y := ⟨_, rfl⟩
     obtain ⟨s3, hs3⟩ : ∃ s3, (eTr s2).2 = s3 := ⟨_, rfl⟩
     have HF2 := Lib.hid (show eList eTr s = ((U ++ [y]) ++ (eMany eTr (n.toNat - (U ++ [y]).length) s3).1, (eMany eTr (n.toNat - (U ++ [y]).length) s3).2) by
      rw [HF.out]
      have e1 : n.toNat - U.length = (n.toNat - (U ++ [y]).length) + 1 := by simp; omega
      rw [e1]
      simp only [eMany, he, if_true, hy, hs3, List.append_assoc, List.singleton_append])
     have HLT2 := Lib.hid hlt
     rw [hy, hs3] at HG
     rw [hs3] at HGO
     clear hlt he hy hs3
     go_wp2_with fail
     refine HG.out.mono ?_
     rintro e w3 ⟨v_, rfl, r4, h1, h2, h3⟩
     obtain ⟨A4, c4, rfl⟩ := Kd.S_slice r4
     have HBW := Lib.hid (show w.heap.size ≤ wr.heap.size from HK.out.size)
     have R4 := Lib.hid (show Kd.R G.k26 26 w3 w.heap.size (fun k => wr.heap.size ≤ k) _ y.f1.f3 from Kd.R_mono (Kd.R_lower (Kd.R_bound (Kd.S_R r4)) HBW.out) (fun k hk => hk.2.1))
     have HS3 := Lib.hid (show Kd.S G.k63 63 w3 w.heap.size (fun k => True ∧ ¬ wr.heap.size ≤ k) (.slice Av U.length cv) U from Kd.S_mono (Kd.S_step (Kd.S_bound HS.out) (fun k hk2 hlt => h3.block k hlt (fun e => by have := hk2.2.1; have := HLT.out; omega))) (fun k hk => ⟨trivial, by have := hk.2.2.1; omega⟩))
     have HOWN := Lib.hid (Kd.S_lt HS.out)
     have HZ3 := Lib.hid (Nat.le_trans HK.out.size h3.size)
     have K1 := Lib.hid h1; have K2 := Lib.hid h2; have K3 := Lib.hid (HK.out.trans h3)
     clear h1 h2 h3 r4
     go_wp2_with ((with_reducible refine gate_builtin (b := .append) (xs := #[.tmp 30, .tmp 33]) rfl ?_); at_builtin; refine Kd.S_append G.k63 (w0 := w3) w.heap.size rfl (.tmp 30) (.tmp 33) 30 63 (.agg #[.int .i64 0, .int .i64 0, .int .i64 0, .int .i64 0, .slice none 0 0]) 56 rfl Tryz.underlying30 G.info63 rfl (by decide) (by omega) _ U y [.int .i64 y.f0, .int .i64 y.f1.f0, .int .i64 y.f1.f1, .int .i64 y.f1.f2, .slice A4 y.f1.f3.length c4] (fun _ => True) (fun k => wr.heap.size ≤ k) rfl rfl (G.k63_mkM _ _ _ y R4.out) (fun k hk => ⟨trivial, fun e => by have := HOWN.out k e.symm; omega⟩) (fun _ _ => trivial) HS3.out (Below.refl _ _) HZ3.out (by omega) ?_; intro v1 w5 ho hb5 hg5 hat; obtain ⟨A9, c9, rfl⟩ := Kd.S_slice ho; have HS5 := Lib.hid ho; have HK5 := Lib.hid (K3.out.then_base hb5); have HI5 := Lib.hid (K1.out.at (hb5.block x HLT.out)); have HB5 := Lib.hid (K2.out.trans (hb5.mono HGEW.out)); clear ho hb5 hg5 hat)
     go_roundw
     case rel =>
      refine ⟨U ++ [y], s3, by rw [List.length_append]; go_num, ?_, ?_, fun _ => HN4.out, (by have h9 := HS5.out; rw [List.length_append] at h9; exact h9), HI5.out, HB5.out, HK5.out, HGO.out, HF2.out⟩
      ·have h1 := HN4.out; have h2 := HLT2.out
       rw [List.length_append, List.length_singleton]
       omega
      ·have h2 := HLT2.out
       rw [List.length_append, List.length_singleton]
       omega
     case measure => simp [intOf]; have h2 := HLT2.out; omega
    ·have hq1 : decide ((U.length : Int) < n) = true := decide_eq_true hlt
     have hq2 : (s2.e == 0) = false := beq_eq_false_iff_ne.2 he
     have HF2 := Lib.hid (show eList eTr s = (U, s2) by rw [HF.out, eMany_stop he, List.append_nil])
     clear hlt he
     go_wp2_with fail
     go_ret
     exact ⟨_, rfl, by rw [HF2.out]; exact HS.out, by rw [HF2.out]; exact HI.out, HB.out, HK.out⟩
   ·have hq1 : decide ((U.length : Int) < n) = false := decide_eq_false hlt
    have HF2 := Lib.hid (show eList eTr s = (U, s2) by
     have e1 : n.toNat - U.length = 0 := by omega
     rw [HF.out, e1]
     simp only [eMany, List.append_nil])
    clear hlt
    go_wp2_with fail
    go_ret
    exact ⟨_, rfl, by rw [HF2.out]; exact HS.out, by rw [HF2.out]; exact HI.out, HB.out, HK.out⟩
end Go.Proofs.YtgiefblcckikeaaGreat.M
end

section
/- The eye: a message, kinds 1, 2, 4 (printed by geneym04.py). -/
set_option maxRecDepth 100000
attribute [local irreducible] Go.wpStill
namespace Go.Proofs.YtgiefblcckikeaaGreat.M
open Go.RowKit Go.Proofs.YtgiefblcckikeaaGreatW.PrintWords Go.Proofs.YtgiefblcckikeaaGreatW.PrintLast Go.Proofs.YtgiefblcckikeaaGreatW.PrintMore Go.Proofs.YtgiefblcckikeaaGreat.G
theorem okS_yes {s : EyeS} (h : okS s) : okS (eYes s).2 := okS_kind h
theorem okS_trs {s : EyeS} (h : okS s) : okS (eList eTr s).2 := okS_list (fun _ => okS_tr) h
set_option maxHeartbeats 4000000 in
theorem eMsg1 {w0 w : World} {x : Nat} {s : EyeS} (hI : IsEye w0 w x s) (hB : Below w0.heap.size w0 w) (hok : okS s) (hk : (eNum s).1 = 1) (he : (eNum s).2.e = 0) :
  Calls Tryz.prog 60 #[.pointer (some ⟨x, 0, none⟩)] w fun e w' => MsP (fun W s => IsEye w0 W x s) w0 w x (eMsg s).1 (eMsg s).2 e w' := by
 have HT1 := Lib.hid (Fo.start (I := fun W s => IsEye w0 W x s) (T := 34) (zs := #[.int .i64 0, .int .i64 0, .int .i64 0, .int .i64 0, .int .i64 0, .int .i64 0, .int .i64 0, .bool false, .slice none 0 0, .int .i64 0, .int .i64 0, .int .i64 0, .slice none 0 0, .int .i64 0, .int .i64 0, .int .i64 0, .slice none 0 0]) hI hB hI.lt hI.ge (fun _ _ _ e h => h.at e))
 obtain ⟨s1, hs1⟩ : ∃ s1, (eNum s).2 = s1 := ⟨_, rfl⟩
 have HN := Lib.hid (And.intro hk hs1)
 have HO0 := Lib.hid hok
 have ho1 := okS_num hok
 rw [hs1] at ho1 he
 have HF0 := Lib.hid (show eMsg s = mBody eSmall eEntry (eList eTr) 1 s1 by
  have hm : eMk s = s1 := by unfold eMk; rw [hk, hs1]; exact eWrong_false _
  unfold eMsg
  rw [hm, if_neg (fun q => q he), hk])
 clear hI hB hok hk hs1
 obtain ⟨v1, hv1⟩ : ∃ v, (eSmall s1).1 = v := ⟨_, rfl⟩
 obtain ⟨s2, hs2⟩ : ∃ t, (eSmall s1).2 = t := ⟨_, rfl⟩
 have ho2 := okS_small ho1
 rw [hs2] at ho2
 have HO1 := Lib.hid ho1; have HE1 := Lib.hid (And.intro hv1 hs2)
 obtain ⟨v2, hv2⟩ : ∃ v, (eSmall s2).1 = v := ⟨_, rfl⟩
 obtain ⟨s3, hs3⟩ : ∃ t, (eSmall s2).2 = t := ⟨_, rfl⟩
 have ho3 := okS_small ho2
 rw [hs3] at ho3
 have HO2 := Lib.hid ho2; have HE2 := Lib.hid (And.intro hv2 hs3)
 obtain ⟨v3, hv3⟩ : ∃ v, (eNum s3).1 = v := ⟨_, rfl⟩
 obtain ⟨s4, hs4⟩ : ∃ t, (eNum s3).2 = t := ⟨_, rfl⟩
 have ho4 := okS_num ho3
 rw [hs4] at ho4
 have HO3 := Lib.hid ho3; have HE3 := Lib.hid (And.intro hv3 hs4)
 obtain ⟨v4, hv4⟩ : ∃ v, (eNum s4).1 = v := ⟨_, rfl⟩
 obtain ⟨s5, hs5⟩ : ∃ t, (eNum s4).2 = t := ⟨_, rfl⟩
 have ho5 := okS_num ho4
 rw [hs5] at ho5
 have HO4 := Lib.hid ho4; have HE4 := Lib.hid (And.intro hv4 hs5)
 obtain ⟨v5, hv5⟩ : ∃ v, (eNum s5).1 = v := ⟨_, rfl⟩
 obtain ⟨s6, hs6⟩ : ∃ t, (eNum s5).2 = t := ⟨_, rfl⟩
 have ho6 := okS_num ho5
 rw [hs6] at ho6
 have HO5 := Lib.hid ho5; have HE5 := Lib.hid (And.intro hv5 hs6)
 have HF := Lib.hid (show eMsg s = (⟨1, v1, v2, v3, v4, v5, 0, false, [], zE, zP⟩, s6) by
  rw [HF0.out]
  unfold mBody
  rw [if_pos rfl]
  simp only [FM, PR, enOf, hv1, hs2, hv2, hs3, hv3, hs4, hv4, hs5, hv5, hs6])
 clear HF0 hv1 hs2 ho1 hv2 hs3 ho2 hv3 hs4 ho3 hv4 hs5 ho4 hv5 hs6 ho5 ho6
 have HQ := Lib.hid (show (s1.e != 0) = false by rw [he]; rfl)
 clear he
 go_enter Tryz.func60, Tryz.ntmps60
 go_upto_region 1 with fail
 obtain ⟨w1, hw1⟩ : ∃ w1, w.alloc (.cells #[.int .i64 0, .int .i64 0, .int .i64 0, .int .i64 0, .int .i64 0, .int .i64 0, .int .i64 0, .bool false, .slice none 0 0, .int .i64 0, .int .i64 0, .int .i64 0, .slice none 0 0, .int .i64 0, .int .i64 0, .int .i64 0, .slice none 0 0] 34) = w1 := ⟨_, rfl⟩
 rw [hw1] at HT1 ⊢
 clear hw1
 go_wp2_with fail
 have h4 := eNum_is HT1.out.i HT1.out.d HO0.out
 rw [HN.out.1, HN.out.2] at h4
 refine h4.mono ?_
 rintro e w2 ⟨rfl, h1, h2, h3⟩
 have HT2 := Lib.hid (HT1.out.call h1 h2 h3)
 clear h1 h2 h3 h4 HT1 HN
 go_wp2_with fail
 have h4 := eWrong_is HT2.out.i HT2.out.d false
 rw [eWrong_false] at h4
 refine h4.mono ?_
 rintro e w3 ⟨rfl, h1, h2, h3⟩
 have HT3 := Lib.hid (HT2.out.call h1 h2 h3)
 clear h1 h2 h3 h4 HT2
 have c1 : w3.cell? ⟨x, 1, none⟩ = some (.int .i64 s1.e) := by
  obtain ⟨A, c, g1, _⟩ := HT3.out.i
  simp [World.cell?, g1]
 have hq := HQ.out
 go_wp2_with fail
 clear c1 hq
 have h4 := eSmall_is HT3.out.i HT3.out.d HO1.out
 rw [HE1.out.1, HE1.out.2] at h4
 refine h4.mono ?_
 rintro e w4 ⟨rfl, h1, h2, h3⟩
 have HT4 := Lib.hid (HT3.out.call h1 h2 h3)
 clear h1 h2 h3 h4 HT3
 go_wp2_with fail
 have h4 := eSmall_is HT4.out.i HT4.out.d HO2.out
 rw [HE2.out.1, HE2.out.2] at h4
 refine h4.mono ?_
 rintro e w5 ⟨rfl, h1, h2, h3⟩
 have HT5 := Lib.hid (HT4.out.call h1 h2 h3)
 clear h1 h2 h3 h4 HT4
 go_upto_region 6 with fail
 have HT6 := Lib.hid (HT5.out.lay #[.int .i64 1, .int .i64 v1, .int .i64 v2, .int .i64 0, .int .i64 0, .int .i64 0, .int .i64 0, .bool false, .slice none 0 0, .int .i64 0, .int .i64 0, .int .i64 0, .slice none 0 0, .int .i64 0, .int .i64 0, .int .i64 0, .slice none 0 0])
 obtain ⟨g, hg⟩ : ∃ g, w5.heap.size = g := ⟨_, rfl⟩
 obtain ⟨w6, hw6⟩ : ∃ w6, w5.alloc (.cells #[.int .i64 1, .int .i64 v1, .int .i64 v2, .int .i64 0, .int .i64 0, .int .i64 0, .int .i64 0, .bool false, .slice none 0 0, .int .i64 0, .int .i64 0, .int .i64 0, .slice none 0 0, .int .i64 0, .int .i64 0, .int .i64 0, .slice none 0 0] 34) = w6 := ⟨_, rfl⟩
 rw [hg, hw6] at HT6
 rw [hw6, hg]
 clear hg hw6 HT5
 have b0 : w6.cell? ⟨g, 0, none⟩ = some (.int .i64 1) := (blk_cell HT6.out.y 0).trans rfl
 go_wp2_with fail
 have h4 := eNum_is HT6.out.i HT6.out.d HO3.out
 rw [HE3.out.1, HE3.out.2] at h4
 refine h4.mono ?_
 rintro e w7 ⟨rfl, h1, h2, h3⟩
 have HT7 := Lib.hid (HT6.out.call h1 h2 h3)
 clear h1 h2 h3 h4 HT6
 clear b0
 have d3 : w7.cell? ⟨g, 3, none⟩ = some (.int .i64 0) := (blk_cell HT7.out.y 3).trans rfl
 have z3 : w7.frozen? ⟨g, 3, none⟩ = false := blk_frozen HT7.out.y 3
 have d0 : w7.cell? ⟨g, 0, none⟩ = some (.int .i64 1) := (blk_cell HT7.out.y 0).trans rfl
 have z0 : w7.frozen? ⟨g, 0, none⟩ = false := blk_frozen HT7.out.y 0
 go_wp2_with fail
 have hT : Fr _ w0 w x g 34 _ #[.int .i64 1, .int .i64 v1, .int .i64 v2, .int .i64 v3, .int .i64 0, .int .i64 0, .int .i64 0, .bool false, .slice none 0 0, .int .i64 0, .int .i64 0, .int .i64 0, .slice none 0 0, .int .i64 0, .int .i64 0, .int .i64 0, .slice none 0 0] _ _ _ := (HT7.out.put 3 (.int .i64 v3))
 have HT8 := Lib.hid hT
 clear hT
 obtain ⟨w8, hw⟩ : ∃ W, (w7.setCell ⟨g, 3, none⟩ (.int .i64 v3)) = W := ⟨_, rfl⟩
 rw [hw] at HT8 ⊢
 clear hw HT7 d3 z3 d0 z0
 have h4 := eNum_is HT8.out.i HT8.out.d HO4.out
 rw [HE4.out.1, HE4.out.2] at h4
 refine h4.mono ?_
 rintro e w9 ⟨rfl, h1, h2, h3⟩
 have HT9 := Lib.hid (HT8.out.call h1 h2 h3)
 clear h1 h2 h3 h4 HT8
 have d4 : w9.cell? ⟨g, 4, none⟩ = some (.int .i64 0) := (blk_cell HT9.out.y 4).trans rfl
 have z4 : w9.frozen? ⟨g, 4, none⟩ = false := blk_frozen HT9.out.y 4
 have d0 : w9.cell? ⟨g, 0, none⟩ = some (.int .i64 1) := (blk_cell HT9.out.y 0).trans rfl
 have z0 : w9.frozen? ⟨g, 0, none⟩ = false := blk_frozen HT9.out.y 0
 go_wp2_with fail
 have hT : Fr _ w0 w x g 34 _ #[.int .i64 1, .int .i64 v1, .int .i64 v2, .int .i64 v3, .int .i64 v4, .int .i64 0, .int .i64 0, .bool false, .slice none 0 0, .int .i64 0, .int .i64 0, .int .i64 0, .slice none 0 0, .int .i64 0, .int .i64 0, .int .i64 0, .slice none 0 0] _ _ _ := (HT9.out.put 4 (.int .i64 v4))
 have HT10 := Lib.hid hT
 clear hT
 obtain ⟨w10, hw⟩ : ∃ W, (w9.setCell ⟨g, 4, none⟩ (.int .i64 v4)) = W := ⟨_, rfl⟩
 rw [hw] at HT10 ⊢
 clear hw HT9 d4 z4 d0 z0
 have h4 := eNum_is HT10.out.i HT10.out.d HO5.out
 rw [HE5.out.1, HE5.out.2] at h4
 refine h4.mono ?_
 rintro e w11 ⟨rfl, h1, h2, h3⟩
 have HT11 := Lib.hid (HT10.out.call h1 h2 h3)
 clear h1 h2 h3 h4 HT10
 have d5 : w11.cell? ⟨g, 5, none⟩ = some (.int .i64 0) := (blk_cell HT11.out.y 5).trans rfl
 have z5 : w11.frozen? ⟨g, 5, none⟩ = false := blk_frozen HT11.out.y 5
 have d0 : w11.cell? ⟨g, 0, none⟩ = some (.int .i64 1) := (blk_cell HT11.out.y 0).trans rfl
 have z0 : w11.frozen? ⟨g, 0, none⟩ = false := blk_frozen HT11.out.y 0
 go_upto_region 28 with fail
 have hT : Fr _ w0 w x g 34 _ #[.int .i64 1, .int .i64 v1, .int .i64 v2, .int .i64 v3, .int .i64 v4, .int .i64 v5, .int .i64 0, .bool false, .slice none 0 0, .int .i64 0, .int .i64 0, .int .i64 0, .slice none 0 0, .int .i64 0, .int .i64 0, .int .i64 0, .slice none 0 0] _ _ _ := (HT11.out.put 5 (.int .i64 v5))
 have HT12 := Lib.hid hT
 clear hT
 obtain ⟨w12, hw⟩ : ∃ W, (w11.setCell ⟨g, 5, none⟩ (.int .i64 v5)) = W := ⟨_, rfl⟩
 rw [hw] at HT12 ⊢
 clear hw HT11 d5 z5 d0 z0
 refine wp_region_list ?_
 refine wpList_load_row rfl 34 (.tmp 4) rfl g rfl 34 #[.int .i64 1, .int .i64 v1, .int .i64 v2, .int .i64 v3, .int .i64 v4, .int .i64 v5, .int .i64 0, .bool false, .slice none 0 0, .int .i64 0, .int .i64 0, .int .i64 0, .slice none 0 0, .int .i64 0, .int .i64 0, .int .i64 0, .slice none 0 0] (0, 0) _ HT12.out.y Tryz.underlying34 rfl (by kernel_rfl) ?_
 refine wpList_store_row rfl 34 (.tmp 2) (.tmp 94) rfl w.heap.size #[.int .i64 1, .int .i64 v1, .int .i64 v2, .int .i64 v3, .int .i64 v4, .int .i64 v5, .int .i64 0, .bool false, .slice none 0 0, .int .i64 0, .int .i64 0, .int .i64 0, .slice none 0 0, .int .i64 0, .int .i64 0, .int .i64 0, .slice none 0 0] rfl rfl 34 #[.int .i64 0, .int .i64 0, .int .i64 0, .int .i64 0, .int .i64 0, .int .i64 0, .int .i64 0, .bool false, .slice none 0 0, .int .i64 0, .int .i64 0, .int .i64 0, .slice none 0 0, .int .i64 0, .int .i64 0, .int .i64 0, .slice none 0 0] HT12.out.g0 (by kernel_rfl) rfl (by simp [Value.oneCell']) ?_
 have HD := Lib.hid (HT12.out.fin (cs' := #[.int .i64 1, .int .i64 v1, .int .i64 v2, .int .i64 v3, .int .i64 v4, .int .i64 v5, .int .i64 0, .bool false, .slice none 0 0, .int .i64 0, .int .i64 0, .int .i64 0, .slice none 0 0, .int .i64 0, .int .i64 0, .int .i64 0, .slice none 0 0]))
 obtain ⟨W, hW⟩ : ∃ W, w12.setRow w.heap.size #[.int .i64 1, .int .i64 v1, .int .i64 v2, .int .i64 v3, .int .i64 v4, .int .i64 v5, .int .i64 0, .bool false, .slice none 0 0, .int .i64 0, .int .i64 0, .int .i64 0, .slice none 0 0, .int .i64 0, .int .i64 0, .int .i64 0, .slice none 0 0] = W := ⟨_, rfl⟩
 rw [hW] at HD ⊢
 clear hW
 go_wp2_with fail
 refine bodyPost_ret (results_cell_row rfl _ _ w.heap.size 34 #[.int .i64 1, .int .i64 v1, .int .i64 v2, .int .i64 v3, .int .i64 v4, .int .i64 v5, .int .i64 0, .bool false, .slice none 0 0, .int .i64 0, .int .i64 0, .int .i64 0, .slice none 0 0, .int .i64 0, .int .i64 0, .int .i64 0, .slice none 0 0] (0, 0) _ rfl HD.out.1 Tryz.underlying34 rfl (by kernel_rfl)) rfl ?_
 rw [HF.out]
 obtain ⟨_, hp, i, d, q⟩ := HD.out
 exact ⟨_, _, _, rfl, Kd.R_nil _ _ _ _ _, Kd.R_nil _ _ _ _ _, Kd.R_nil _ _ _ _ _, i, d, q⟩
set_option maxHeartbeats 4000000 in
theorem eMsg2 {w0 w : World} {x : Nat} {s : EyeS} (hI : IsEye w0 w x s) (hB : Below w0.heap.size w0 w) (hok : okS s) (hk : (eNum s).1 = 2) (he : (eNum s).2.e = 0) :
  Calls Tryz.prog 60 #[.pointer (some ⟨x, 0, none⟩)] w fun e w' => MsP (fun W s => IsEye w0 W x s) w0 w x (eMsg s).1 (eMsg s).2 e w' := by
 have HT1 := Lib.hid (Fo.start (I := fun W s => IsEye w0 W x s) (T := 34) (zs := #[.int .i64 0, .int .i64 0, .int .i64 0, .int .i64 0, .int .i64 0, .int .i64 0, .int .i64 0, .bool false, .slice none 0 0, .int .i64 0, .int .i64 0, .int .i64 0, .slice none 0 0, .int .i64 0, .int .i64 0, .int .i64 0, .slice none 0 0]) hI hB hI.lt hI.ge (fun _ _ _ e h => h.at e))
 obtain ⟨s1, hs1⟩ : ∃ s1, (eNum s).2 = s1 := ⟨_, rfl⟩
 have HN := Lib.hid (And.intro hk hs1)
 have HO0 := Lib.hid hok
 have ho1 := okS_num hok
 rw [hs1] at ho1 he
 have HF0 := Lib.hid (show eMsg s = mBody eSmall eEntry (eList eTr) 2 s1 by
  have hm : eMk s = s1 := by unfold eMk; rw [hk, hs1]; exact eWrong_false _
  unfold eMsg
  rw [hm, if_neg (fun q => q he), hk])
 clear hI hB hok hk hs1
 obtain ⟨v1, hv1⟩ : ∃ v, (eSmall s1).1 = v := ⟨_, rfl⟩
 obtain ⟨s2, hs2⟩ : ∃ t, (eSmall s1).2 = t := ⟨_, rfl⟩
 have ho2 := okS_small ho1
 rw [hs2] at ho2
 have HO1 := Lib.hid ho1; have HE1 := Lib.hid (And.intro hv1 hs2)
 obtain ⟨v2, hv2⟩ : ∃ v, (eSmall s2).1 = v := ⟨_, rfl⟩
 obtain ⟨s3, hs3⟩ : ∃ t, (eSmall s2).2 = t := ⟨_, rfl⟩
 have ho3 := okS_small ho2
 rw [hs3] at ho3
 have HO2 := Lib.hid ho2; have HE2 := Lib.hid (And.intro hv2 hs3)
 obtain ⟨v3, hv3⟩ : ∃ v, (eNum s3).1 = v := ⟨_, rfl⟩
 obtain ⟨s4, hs4⟩ : ∃ t, (eNum s3).2 = t := ⟨_, rfl⟩
 have ho4 := okS_num ho3
 rw [hs4] at ho4
 have HO3 := Lib.hid ho3; have HE3 := Lib.hid (And.intro hv3 hs4)
 obtain ⟨v4, hv4⟩ : ∃ v, (eYes s4).1 = v := ⟨_, rfl⟩
 obtain ⟨s5, hs5⟩ : ∃ t, (eYes s4).2 = t := ⟨_, rfl⟩
 have ho5 := okS_yes ho4
 rw [hs5] at ho5
 have HO4 := Lib.hid ho4; have HE4 := Lib.hid (And.intro hv4 hs5)
 have HF := Lib.hid (show eMsg s = (⟨2, v1, v2, v3, 0, 0, 0, v4, [], zE, zP⟩, s5) by
  rw [HF0.out]
  unfold mBody
  rw [if_neg (by decide)]; rw [if_pos rfl]
  simp only [FM, PR, enOf, hv1, hs2, hv2, hs3, hv3, hs4, hv4, hs5])
 clear HF0 hv1 hs2 ho1 hv2 hs3 ho2 hv3 hs4 ho3 hv4 hs5 ho4 ho5
 have HQ := Lib.hid (show (s1.e != 0) = false by rw [he]; rfl)
 clear he
 go_enter Tryz.func60, Tryz.ntmps60
 go_upto_region 1 with fail
 obtain ⟨w1, hw1⟩ : ∃ w1, w.alloc (.cells #[.int .i64 0, .int .i64 0, .int .i64 0, .int .i64 0, .int .i64 0, .int .i64 0, .int .i64 0, .bool false, .slice none 0 0, .int .i64 0, .int .i64 0, .int .i64 0, .slice none 0 0, .int .i64 0, .int .i64 0, .int .i64 0, .slice none 0 0] 34) = w1 := ⟨_, rfl⟩
 rw [hw1] at HT1 ⊢
 clear hw1
 go_wp2_with fail
 have h4 := eNum_is HT1.out.i HT1.out.d HO0.out
 rw [HN.out.1, HN.out.2] at h4
 refine h4.mono ?_
 rintro e w2 ⟨rfl, h1, h2, h3⟩
 have HT2 := Lib.hid (HT1.out.call h1 h2 h3)
 clear h1 h2 h3 h4 HT1 HN
 go_wp2_with fail
 have h4 := eWrong_is HT2.out.i HT2.out.d false
 rw [eWrong_false] at h4
 refine h4.mono ?_
 rintro e w3 ⟨rfl, h1, h2, h3⟩
 have HT3 := Lib.hid (HT2.out.call h1 h2 h3)
 clear h1 h2 h3 h4 HT2
 have c1 : w3.cell? ⟨x, 1, none⟩ = some (.int .i64 s1.e) := by
  obtain ⟨A, c, g1, _⟩ := HT3.out.i
  simp [World.cell?, g1]
 have hq := HQ.out
 go_wp2_with fail
 clear c1 hq
 have h4 := eSmall_is HT3.out.i HT3.out.d HO1.out
 rw [HE1.out.1, HE1.out.2] at h4
 refine h4.mono ?_
 rintro e w4 ⟨rfl, h1, h2, h3⟩
 have HT4 := Lib.hid (HT3.out.call h1 h2 h3)
 clear h1 h2 h3 h4 HT3
 go_wp2_with fail
 have h4 := eSmall_is HT4.out.i HT4.out.d HO2.out
 rw [HE2.out.1, HE2.out.2] at h4
 refine h4.mono ?_
 rintro e w5 ⟨rfl, h1, h2, h3⟩
 have HT5 := Lib.hid (HT4.out.call h1 h2 h3)
 clear h1 h2 h3 h4 HT4
 go_upto_region 6 with fail
 have HT6 := Lib.hid (HT5.out.lay #[.int .i64 2, .int .i64 v1, .int .i64 v2, .int .i64 0, .int .i64 0, .int .i64 0, .int .i64 0, .bool false, .slice none 0 0, .int .i64 0, .int .i64 0, .int .i64 0, .slice none 0 0, .int .i64 0, .int .i64 0, .int .i64 0, .slice none 0 0])
 obtain ⟨g, hg⟩ : ∃ g, w5.heap.size = g := ⟨_, rfl⟩
 obtain ⟨w6, hw6⟩ : ∃ w6, w5.alloc (.cells #[.int .i64 2, .int .i64 v1, .int .i64 v2, .int .i64 0, .int .i64 0, .int .i64 0, .int .i64 0, .bool false, .slice none 0 0, .int .i64 0, .int .i64 0, .int .i64 0, .slice none 0 0, .int .i64 0, .int .i64 0, .int .i64 0, .slice none 0 0] 34) = w6 := ⟨_, rfl⟩
 rw [hg, hw6] at HT6
 rw [hw6, hg]
 clear hg hw6 HT5
 have b0 : w6.cell? ⟨g, 0, none⟩ = some (.int .i64 2) := (blk_cell HT6.out.y 0).trans rfl
 go_wp2_with fail
 have h4 := eNum_is HT6.out.i HT6.out.d HO3.out
 rw [HE3.out.1, HE3.out.2] at h4
 refine h4.mono ?_
 rintro e w7 ⟨rfl, h1, h2, h3⟩
 have HT7 := Lib.hid (HT6.out.call h1 h2 h3)
 clear h1 h2 h3 h4 HT6
 clear b0
 have d3 : w7.cell? ⟨g, 3, none⟩ = some (.int .i64 0) := (blk_cell HT7.out.y 3).trans rfl
 have z3 : w7.frozen? ⟨g, 3, none⟩ = false := blk_frozen HT7.out.y 3
 have d0 : w7.cell? ⟨g, 0, none⟩ = some (.int .i64 2) := (blk_cell HT7.out.y 0).trans rfl
 have z0 : w7.frozen? ⟨g, 0, none⟩ = false := blk_frozen HT7.out.y 0
 go_wp2_with fail
 have hT : Fr _ w0 w x g 34 _ #[.int .i64 2, .int .i64 v1, .int .i64 v2, .int .i64 v3, .int .i64 0, .int .i64 0, .int .i64 0, .bool false, .slice none 0 0, .int .i64 0, .int .i64 0, .int .i64 0, .slice none 0 0, .int .i64 0, .int .i64 0, .int .i64 0, .slice none 0 0] _ _ _ := (HT7.out.put 3 (.int .i64 v3))
 have HT8 := Lib.hid hT
 clear hT
 obtain ⟨w8, hw⟩ : ∃ W, (w7.setCell ⟨g, 3, none⟩ (.int .i64 v3)) = W := ⟨_, rfl⟩
 rw [hw] at HT8 ⊢
 clear hw HT7 d3 z3 d0 z0
 have h4 := eYes_is HT8.out.i HT8.out.d HO4.out
 rw [HE4.out.1, HE4.out.2] at h4
 refine h4.mono ?_
 rintro e w9 ⟨rfl, h1, h2, h3⟩
 have HT9 := Lib.hid (HT8.out.call h1 h2 h3)
 clear h1 h2 h3 h4 HT8
 have d7 : w9.cell? ⟨g, 7, none⟩ = some (.bool false) := (blk_cell HT9.out.y 7).trans rfl
 have z7 : w9.frozen? ⟨g, 7, none⟩ = false := blk_frozen HT9.out.y 7
 have d0 : w9.cell? ⟨g, 0, none⟩ = some (.int .i64 2) := (blk_cell HT9.out.y 0).trans rfl
 have z0 : w9.frozen? ⟨g, 0, none⟩ = false := blk_frozen HT9.out.y 0
 go_upto_region 28 with fail
 have hT : Fr _ w0 w x g 34 _ #[.int .i64 2, .int .i64 v1, .int .i64 v2, .int .i64 v3, .int .i64 0, .int .i64 0, .int .i64 0, .bool v4, .slice none 0 0, .int .i64 0, .int .i64 0, .int .i64 0, .slice none 0 0, .int .i64 0, .int .i64 0, .int .i64 0, .slice none 0 0] _ _ _ := (HT9.out.put 7 (.bool v4))
 have HT10 := Lib.hid hT
 clear hT
 obtain ⟨w10, hw⟩ : ∃ W, (w9.setCell ⟨g, 7, none⟩ (.bool v4)) = W := ⟨_, rfl⟩
 rw [hw] at HT10 ⊢
 clear hw HT9 d7 z7 d0 z0
 refine wp_region_list ?_
 refine wpList_load_row rfl 34 (.tmp 4) rfl g rfl 34 #[.int .i64 2, .int .i64 v1, .int .i64 v2, .int .i64 v3, .int .i64 0, .int .i64 0, .int .i64 0, .bool v4, .slice none 0 0, .int .i64 0, .int .i64 0, .int .i64 0, .slice none 0 0, .int .i64 0, .int .i64 0, .int .i64 0, .slice none 0 0] (0, 0) _ HT10.out.y Tryz.underlying34 rfl (by kernel_rfl) ?_
 refine wpList_store_row rfl 34 (.tmp 2) (.tmp 94) rfl w.heap.size #[.int .i64 2, .int .i64 v1, .int .i64 v2, .int .i64 v3, .int .i64 0, .int .i64 0, .int .i64 0, .bool v4, .slice none 0 0, .int .i64 0, .int .i64 0, .int .i64 0, .slice none 0 0, .int .i64 0, .int .i64 0, .int .i64 0, .slice none 0 0] rfl rfl 34 #[.int .i64 0, .int .i64 0, .int .i64 0, .int .i64 0, .int .i64 0, .int .i64 0, .int .i64 0, .bool false, .slice none 0 0, .int .i64 0, .int .i64 0, .int .i64 0, .slice none 0 0, .int .i64 0, .int .i64 0, .int .i64 0, .slice none 0 0] HT10.out.g0 (by kernel_rfl) rfl (by simp [Value.oneCell']) ?_
 have HD := Lib.hid (HT10.out.fin (cs' := #[.int .i64 2, .int .i64 v1, .int .i64 v2, .int .i64 v3, .int .i64 0, .int .i64 0, .int .i64 0, .bool v4, .slice none 0 0, .int .i64 0, .int .i64 0, .int .i64 0, .slice none 0 0, .int .i64 0, .int .i64 0, .int .i64 0, .slice none 0 0]))
 obtain ⟨W, hW⟩ : ∃ W, w10.setRow w.heap.size #[.int .i64 2, .int .i64 v1, .int .i64 v2, .int .i64 v3, .int .i64 0, .int .i64 0, .int .i64 0, .bool v4, .slice none 0 0, .int .i64 0, .int .i64 0, .int .i64 0, .slice none 0 0, .int .i64 0, .int .i64 0, .int .i64 0, .slice none 0 0] = W := ⟨_, rfl⟩
 rw [hW] at HD ⊢
 clear hW
 go_wp2_with fail
 refine bodyPost_ret (results_cell_row rfl _ _ w.heap.size 34 #[.int .i64 2, .int .i64 v1, .int .i64 v2, .int .i64 v3, .int .i64 0, .int .i64 0, .int .i64 0, .bool v4, .slice none 0 0, .int .i64 0, .int .i64 0, .int .i64 0, .slice none 0 0, .int .i64 0, .int .i64 0, .int .i64 0, .slice none 0 0] (0, 0) _ rfl HD.out.1 Tryz.underlying34 rfl (by kernel_rfl)) rfl ?_
 rw [HF.out]
 obtain ⟨_, hp, i, d, q⟩ := HD.out
 exact ⟨_, _, _, rfl, Kd.R_nil _ _ _ _ _, Kd.R_nil _ _ _ _ _, Kd.R_nil _ _ _ _ _, i, d, q⟩
set_option maxHeartbeats 4000000 in
theorem eMsg4 {w0 w : World} {x : Nat} {s : EyeS} (hI : IsEye w0 w x s) (hB : Below w0.heap.size w0 w) (hok : okS s) (hk : (eNum s).1 = 4) (he : (eNum s).2.e = 0) :
  Calls Tryz.prog 60 #[.pointer (some ⟨x, 0, none⟩)] w fun e w' => MsP (fun W s => IsEye w0 W x s) w0 w x (eMsg s).1 (eMsg s).2 e w' := by
 have HT1 := Lib.hid (Fo.start (I := fun W s => IsEye w0 W x s) (T := 34) (zs := #[.int .i64 0, .int .i64 0, .int .i64 0, .int .i64 0, .int .i64 0, .int .i64 0, .int .i64 0, .bool false, .slice none 0 0, .int .i64 0, .int .i64 0, .int .i64 0, .slice none 0 0, .int .i64 0, .int .i64 0, .int .i64 0, .slice none 0 0]) hI hB hI.lt hI.ge (fun _ _ _ e h => h.at e))
 obtain ⟨s1, hs1⟩ : ∃ s1, (eNum s).2 = s1 := ⟨_, rfl⟩
 have HN := Lib.hid (And.intro hk hs1)
 have HO0 := Lib.hid hok
 have ho1 := okS_num hok
 rw [hs1] at ho1 he
 have HF0 := Lib.hid (show eMsg s = mBody eSmall eEntry (eList eTr) 4 s1 by
  have hm : eMk s = s1 := by unfold eMk; rw [hk, hs1]; exact eWrong_false _
  unfold eMsg
  rw [hm, if_neg (fun q => q he), hk])
 clear hI hB hok hk hs1
 obtain ⟨v1, hv1⟩ : ∃ v, (eSmall s1).1 = v := ⟨_, rfl⟩
 obtain ⟨s2, hs2⟩ : ∃ t, (eSmall s1).2 = t := ⟨_, rfl⟩
 have ho2 := okS_small ho1
 rw [hs2] at ho2
 have HO1 := Lib.hid ho1; have HE1 := Lib.hid (And.intro hv1 hs2)
 obtain ⟨v2, hv2⟩ : ∃ v, (eSmall s2).1 = v := ⟨_, rfl⟩
 obtain ⟨s3, hs3⟩ : ∃ t, (eSmall s2).2 = t := ⟨_, rfl⟩
 have ho3 := okS_small ho2
 rw [hs3] at ho3
 have HO2 := Lib.hid ho2; have HE2 := Lib.hid (And.intro hv2 hs3)
 obtain ⟨v3, hv3⟩ : ∃ v, (eNum s3).1 = v := ⟨_, rfl⟩
 obtain ⟨s4, hs4⟩ : ∃ t, (eNum s3).2 = t := ⟨_, rfl⟩
 have ho4 := okS_num ho3
 rw [hs4] at ho4
 have HO3 := Lib.hid ho3; have HE3 := Lib.hid (And.intro hv3 hs4)
 obtain ⟨v4, hv4⟩ : ∃ v, (eYes s4).1 = v := ⟨_, rfl⟩
 obtain ⟨s5, hs5⟩ : ∃ t, (eYes s4).2 = t := ⟨_, rfl⟩
 have ho5 := okS_yes ho4
 rw [hs5] at ho5
 have HO4 := Lib.hid ho4; have HE4 := Lib.hid (And.intro hv4 hs5)
 obtain ⟨v5, hv5⟩ : ∃ v, (eNum s5).1 = v := ⟨_, rfl⟩
 obtain ⟨s6, hs6⟩ : ∃ t, (eNum s5).2 = t := ⟨_, rfl⟩
 have ho6 := okS_num ho5
 rw [hs6] at ho6
 have HO5 := Lib.hid ho5; have HE5 := Lib.hid (And.intro hv5 hs6)
 have HF := Lib.hid (show eMsg s = (⟨4, v1, v2, v3, v5, 0, 0, v4, [], zE, zP⟩, s6) by
  rw [HF0.out]
  unfold mBody
  rw [if_neg (by decide)]; rw [if_neg (by decide)]; rw [if_neg (by decide)]; rw [if_pos rfl]
  simp only [FM, PR, enOf, hv1, hs2, hv2, hs3, hv3, hs4, hv4, hs5, hv5, hs6])
 clear HF0 hv1 hs2 ho1 hv2 hs3 ho2 hv3 hs4 ho3 hv4 hs5 ho4 hv5 hs6 ho5 ho6
 have HQ := Lib.hid (show (s1.e != 0) = false by rw [he]; rfl)
 clear he
 go_enter Tryz.func60, Tryz.ntmps60
 go_upto_region 1 with fail
 obtain ⟨w1, hw1⟩ : ∃ w1, w.alloc (.cells #[.int .i64 0, .int .i64 0, .int .i64 0, .int .i64 0, .int .i64 0, .int .i64 0, .int .i64 0, .bool false, .slice none 0 0, .int .i64 0, .int .i64 0, .int .i64 0, .slice none 0 0, .int .i64 0, .int .i64 0, .int .i64 0, .slice none 0 0] 34) = w1 := ⟨_, rfl⟩
 rw [hw1] at HT1 ⊢
 clear hw1
 go_wp2_with fail
 have h4 := eNum_is HT1.out.i HT1.out.d HO0.out
 rw [HN.out.1, HN.out.2] at h4
 refine h4.mono ?_
 rintro e w2 ⟨rfl, h1, h2, h3⟩
 have HT2 := Lib.hid (HT1.out.call h1 h2 h3)
 clear h1 h2 h3 h4 HT1 HN
 go_wp2_with fail
 have h4 := eWrong_is HT2.out.i HT2.out.d false
 rw [eWrong_false] at h4
 refine h4.mono ?_
 rintro e w3 ⟨rfl, h1, h2, h3⟩
 have HT3 := Lib.hid (HT2.out.call h1 h2 h3)
 clear h1 h2 h3 h4 HT2
 have c1 : w3.cell? ⟨x, 1, none⟩ = some (.int .i64 s1.e) := by
  obtain ⟨A, c, g1, _⟩ := HT3.out.i
  simp [World.cell?, g1]
 have hq := HQ.out
 go_wp2_with fail
 clear c1 hq
 have h4 := eSmall_is HT3.out.i HT3.out.d HO1.out
 rw [HE1.out.1, HE1.out.2] at h4
 refine h4.mono ?_
 rintro e w4 ⟨rfl, h1, h2, h3⟩
 have HT4 := Lib.hid (HT3.out.call h1 h2 h3)
 clear h1 h2 h3 h4 HT3
 go_wp2_with fail
 have h4 := eSmall_is HT4.out.i HT4.out.d HO2.out
 rw [HE2.out.1, HE2.out.2] at h4
 refine h4.mono ?_
 rintro e w5 ⟨rfl, h1, h2, h3⟩
 have HT5 := Lib.hid (HT4.out.call h1 h2 h3)
 clear h1 h2 h3 h4 HT4
 go_upto_region 6 with fail
 have HT6 := Lib.hid (HT5.out.lay #[.int .i64 4, .int .i64 v1, .int .i64 v2, .int .i64 0, .int .i64 0, .int .i64 0, .int .i64 0, .bool false, .slice none 0 0, .int .i64 0, .int .i64 0, .int .i64 0, .slice none 0 0, .int .i64 0, .int .i64 0, .int .i64 0, .slice none 0 0])
 obtain ⟨g, hg⟩ : ∃ g, w5.heap.size = g := ⟨_, rfl⟩
 obtain ⟨w6, hw6⟩ : ∃ w6, w5.alloc (.cells #[.int .i64 4, .int .i64 v1, .int .i64 v2, .int .i64 0, .int .i64 0, .int .i64 0, .int .i64 0, .bool false, .slice none 0 0, .int .i64 0, .int .i64 0, .int .i64 0, .slice none 0 0, .int .i64 0, .int .i64 0, .int .i64 0, .slice none 0 0] 34) = w6 := ⟨_, rfl⟩
 rw [hg, hw6] at HT6
 rw [hw6, hg]
 clear hg hw6 HT5
 have b0 : w6.cell? ⟨g, 0, none⟩ = some (.int .i64 4) := (blk_cell HT6.out.y 0).trans rfl
 go_wp2_with fail
 have h4 := eNum_is HT6.out.i HT6.out.d HO3.out
 rw [HE3.out.1, HE3.out.2] at h4
 refine h4.mono ?_
 rintro e w7 ⟨rfl, h1, h2, h3⟩
 have HT7 := Lib.hid (HT6.out.call h1 h2 h3)
 clear h1 h2 h3 h4 HT6
 clear b0
 have d3 : w7.cell? ⟨g, 3, none⟩ = some (.int .i64 0) := (blk_cell HT7.out.y 3).trans rfl
 have z3 : w7.frozen? ⟨g, 3, none⟩ = false := blk_frozen HT7.out.y 3
 have d0 : w7.cell? ⟨g, 0, none⟩ = some (.int .i64 4) := (blk_cell HT7.out.y 0).trans rfl
 have z0 : w7.frozen? ⟨g, 0, none⟩ = false := blk_frozen HT7.out.y 0
 go_wp2_with fail
 have hT : Fr _ w0 w x g 34 _ #[.int .i64 4, .int .i64 v1, .int .i64 v2, .int .i64 v3, .int .i64 0, .int .i64 0, .int .i64 0, .bool false, .slice none 0 0, .int .i64 0, .int .i64 0, .int .i64 0, .slice none 0 0, .int .i64 0, .int .i64 0, .int .i64 0, .slice none 0 0] _ _ _ := (HT7.out.put 3 (.int .i64 v3))
 have HT8 := Lib.hid hT
 clear hT
 obtain ⟨w8, hw⟩ : ∃ W, (w7.setCell ⟨g, 3, none⟩ (.int .i64 v3)) = W := ⟨_, rfl⟩
 rw [hw] at HT8 ⊢
 clear hw HT7 d3 z3 d0 z0
 have h4 := eYes_is HT8.out.i HT8.out.d HO4.out
 rw [HE4.out.1, HE4.out.2] at h4
 refine h4.mono ?_
 rintro e w9 ⟨rfl, h1, h2, h3⟩
 have HT9 := Lib.hid (HT8.out.call h1 h2 h3)
 clear h1 h2 h3 h4 HT8
 have d7 : w9.cell? ⟨g, 7, none⟩ = some (.bool false) := (blk_cell HT9.out.y 7).trans rfl
 have z7 : w9.frozen? ⟨g, 7, none⟩ = false := blk_frozen HT9.out.y 7
 have d0 : w9.cell? ⟨g, 0, none⟩ = some (.int .i64 4) := (blk_cell HT9.out.y 0).trans rfl
 have z0 : w9.frozen? ⟨g, 0, none⟩ = false := blk_frozen HT9.out.y 0
 go_wp2_with fail
 have hT : Fr _ w0 w x g 34 _ #[.int .i64 4, .int .i64 v1, .int .i64 v2, .int .i64 v3, .int .i64 0, .int .i64 0, .int .i64 0, .bool v4, .slice none 0 0, .int .i64 0, .int .i64 0, .int .i64 0, .slice none 0 0, .int .i64 0, .int .i64 0, .int .i64 0, .slice none 0 0] _ _ _ := (HT9.out.put 7 (.bool v4))
 have HT10 := Lib.hid hT
 clear hT
 obtain ⟨w10, hw⟩ : ∃ W, (w9.setCell ⟨g, 7, none⟩ (.bool v4)) = W := ⟨_, rfl⟩
 rw [hw] at HT10 ⊢
 clear hw HT9 d7 z7 d0 z0
 have h4 := eNum_is HT10.out.i HT10.out.d HO5.out
 rw [HE5.out.1, HE5.out.2] at h4
 refine h4.mono ?_
 rintro e w11 ⟨rfl, h1, h2, h3⟩
 have HT11 := Lib.hid (HT10.out.call h1 h2 h3)
 clear h1 h2 h3 h4 HT10
 have d4 : w11.cell? ⟨g, 4, none⟩ = some (.int .i64 0) := (blk_cell HT11.out.y 4).trans rfl
 have z4 : w11.frozen? ⟨g, 4, none⟩ = false := blk_frozen HT11.out.y 4
 have d0 : w11.cell? ⟨g, 0, none⟩ = some (.int .i64 4) := (blk_cell HT11.out.y 0).trans rfl
 have z0 : w11.frozen? ⟨g, 0, none⟩ = false := blk_frozen HT11.out.y 0
 go_upto_region 28 with fail
 have hT : Fr _ w0 w x g 34 _ #[.int .i64 4, .int .i64 v1, .int .i64 v2, .int .i64 v3, .int .i64 v5, .int .i64 0, .int .i64 0, .bool v4, .slice none 0 0, .int .i64 0, .int .i64 0, .int .i64 0, .slice none 0 0, .int .i64 0, .int .i64 0, .int .i64 0, .slice none 0 0] _ _ _ := (HT11.out.put 4 (.int .i64 v5))
 have HT12 := Lib.hid hT
 clear hT
 obtain ⟨w12, hw⟩ : ∃ W, (w11.setCell ⟨g, 4, none⟩ (.int .i64 v5)) = W := ⟨_, rfl⟩
 rw [hw] at HT12 ⊢
 clear hw HT11 d4 z4 d0 z0
 refine wp_region_list ?_
 refine wpList_load_row rfl 34 (.tmp 4) rfl g rfl 34 #[.int .i64 4, .int .i64 v1, .int .i64 v2, .int .i64 v3, .int .i64 v5, .int .i64 0, .int .i64 0, .bool v4, .slice none 0 0, .int .i64 0, .int .i64 0, .int .i64 0, .slice none 0 0, .int .i64 0, .int .i64 0, .int .i64 0, .slice none 0 0] (0, 0) _ HT12.out.y Tryz.underlying34 rfl (by kernel_rfl) ?_
 refine wpList_store_row rfl 34 (.tmp 2) (.tmp 94) rfl w.heap.size #[.int .i64 4, .int .i64 v1, .int .i64 v2, .int .i64 v3, .int .i64 v5, .int .i64 0, .int .i64 0, .bool v4, .slice none 0 0, .int .i64 0, .int .i64 0, .int .i64 0, .slice none 0 0, .int .i64 0, .int .i64 0, .int .i64 0, .slice none 0 0] rfl rfl 34 #[.int .i64 0, .int .i64 0, .int .i64 0, .int .i64 0, .int .i64 0, .int .i64 0, .int .i64 0, .bool false, .slice none 0 0, .int .i64 0, .int .i64 0, .int .i64 0, .slice none 0 0, .int .i64 0, .int .i64 0, .int .i64 0, .slice none 0 0] HT12.out.g0 (by kernel_rfl) rfl (by simp [Value.oneCell']) ?_
 have HD := Lib.hid (HT12.out.fin (cs' := #[.int .i64 4, .int .i64 v1, .int .i64 v2, .int .i64 v3, .int .i64 v5, .int .i64 0, .int .i64 0, .bool v4, .slice none 0 0, .int .i64 0, .int .i64 0, .int .i64 0, .slice none 0 0, .int .i64 0, .int .i64 0, .int .i64 0, .slice none 0 0]))
 obtain ⟨W, hW⟩ : ∃ W, w12.setRow w.heap.size #[.int .i64 4, .int .i64 v1, .int .i64 v2, .int .i64 v3, .int .i64 v5, .int .i64 0, .int .i64 0, .bool v4, .slice none 0 0, .int .i64 0, .int .i64 0, .int .i64 0, .slice none 0 0, .int .i64 0, .int .i64 0, .int .i64 0, .slice none 0 0] = W := ⟨_, rfl⟩
 rw [hW] at HD ⊢
 clear hW
 go_wp2_with fail
 refine bodyPost_ret (results_cell_row rfl _ _ w.heap.size 34 #[.int .i64 4, .int .i64 v1, .int .i64 v2, .int .i64 v3, .int .i64 v5, .int .i64 0, .int .i64 0, .bool v4, .slice none 0 0, .int .i64 0, .int .i64 0, .int .i64 0, .slice none 0 0, .int .i64 0, .int .i64 0, .int .i64 0, .slice none 0 0] (0, 0) _ rfl HD.out.1 Tryz.underlying34 rfl (by kernel_rfl)) rfl ?_
 rw [HF.out]
 obtain ⟨_, hp, i, d, q⟩ := HD.out
 exact ⟨_, _, _, rfl, Kd.R_nil _ _ _ _ _, Kd.R_nil _ _ _ _ _, Kd.R_nil _ _ _ _ _, i, d, q⟩
end Go.Proofs.YtgiefblcckikeaaGreat.M
end

section
/- The eye: a message, kinds 3, 5 (printed by geneym04.py). -/
set_option maxRecDepth 100000
attribute [local irreducible] Go.wpStill
namespace Go.Proofs.YtgiefblcckikeaaGreat.M
open Go.RowKit Go.Proofs.YtgiefblcckikeaaGreatW.PrintWords Go.Proofs.YtgiefblcckikeaaGreatW.PrintLast Go.Proofs.YtgiefblcckikeaaGreatW.PrintMore Go.Proofs.YtgiefblcckikeaaGreat.G
set_option maxHeartbeats 4000000 in
theorem eMsg3 {w0 w : World} {x : Nat} {s : EyeS} (hI : IsEye w0 w x s) (hB : Below w0.heap.size w0 w) (hok : okS s) (hk : (eNum s).1 = 3) (he : (eNum s).2.e = 0) :
  Calls Tryz.prog 60 #[.pointer (some ⟨x, 0, none⟩)] w fun e w' => MsP (fun W s => IsEye w0 W x s) w0 w x (eMsg s).1 (eMsg s).2 e w' := by
 have HT1 := Lib.hid (Fo.start (I := fun W s => IsEye w0 W x s) (T := 34) (zs := #[.int .i64 0, .int .i64 0, .int .i64 0, .int .i64 0, .int .i64 0, .int .i64 0, .int .i64 0, .bool false, .slice none 0 0, .int .i64 0, .int .i64 0, .int .i64 0, .slice none 0 0, .int .i64 0, .int .i64 0, .int .i64 0, .slice none 0 0]) hI hB hI.lt hI.ge (fun _ _ _ e h => h.at e))
 obtain ⟨s1, hs1⟩ : ∃ s1, (eNum s).2 = s1 := ⟨_, rfl⟩
 have HN := Lib.hid (And.intro hk hs1)
 have HO0 := Lib.hid hok
 have ho1 := okS_num hok
 rw [hs1] at ho1 he
 have HF0 := Lib.hid (show eMsg s = mBody eSmall eEntry (eList eTr) 3 s1 by
  have hm : eMk s = s1 := by unfold eMk; rw [hk, hs1]; exact eWrong_false _
  unfold eMsg
  rw [hm, if_neg (fun q => q he), hk])
 clear hI hB hok hk hs1
 obtain ⟨v1, hv1⟩ : ∃ v, (eSmall s1).1 = v := ⟨_, rfl⟩
 obtain ⟨s2, hs2⟩ : ∃ t, (eSmall s1).2 = t := ⟨_, rfl⟩
 have ho2 := okS_small ho1
 rw [hs2] at ho2
 have HO1 := Lib.hid ho1; have HE1 := Lib.hid (And.intro hv1 hs2)
 obtain ⟨v2, hv2⟩ : ∃ v, (eSmall s2).1 = v := ⟨_, rfl⟩
 obtain ⟨s3, hs3⟩ : ∃ t, (eSmall s2).2 = t := ⟨_, rfl⟩
 have ho3 := okS_small ho2
 rw [hs3] at ho3
 have HO2 := Lib.hid ho2; have HE2 := Lib.hid (And.intro hv2 hs3)
 obtain ⟨v3, hv3⟩ : ∃ v, (eNum s3).1 = v := ⟨_, rfl⟩
 obtain ⟨s4, hs4⟩ : ∃ t, (eNum s3).2 = t := ⟨_, rfl⟩
 have ho4 := okS_num ho3
 rw [hs4] at ho4
 have HO3 := Lib.hid ho3; have HE3 := Lib.hid (And.intro hv3 hs4)
 obtain ⟨v4, hv4⟩ : ∃ v, (eNum s4).1 = v := ⟨_, rfl⟩
 obtain ⟨s5, hs5⟩ : ∃ t, (eNum s4).2 = t := ⟨_, rfl⟩
 have ho5 := okS_num ho4
 rw [hs5] at ho5
 have HO4 := Lib.hid ho4; have HE4 := Lib.hid (And.intro hv4 hs5)
 obtain ⟨v5, hv5⟩ : ∃ v, (eNum s5).1 = v := ⟨_, rfl⟩
 obtain ⟨s6, hs6⟩ : ∃ t, (eNum s5).2 = t := ⟨_, rfl⟩
 have ho6 := okS_num ho5
 rw [hs6] at ho6
 have HO5 := Lib.hid ho5; have HE5 := Lib.hid (And.intro hv5 hs6)
 obtain ⟨v6, hv6⟩ : ∃ v, (eNum s6).1 = v := ⟨_, rfl⟩
 obtain ⟨s7, hs7⟩ : ∃ t, (eNum s6).2 = t := ⟨_, rfl⟩
 have ho7 := okS_num ho6
 rw [hs7] at ho7
 have HO6 := Lib.hid ho6; have HE6 := Lib.hid (And.intro hv6 hs7)
 obtain ⟨v7, hv7⟩ : ∃ v, ((eList eTr) s7).1 = v := ⟨_, rfl⟩
 obtain ⟨s8, hs8⟩ : ∃ t, ((eList eTr) s7).2 = t := ⟨_, rfl⟩
 have ho8 := okS_trs ho7
 rw [hs8] at ho8
 have HO7 := Lib.hid ho7; have HE7 := Lib.hid (And.intro hv7 hs8)
 have HF := Lib.hid (show eMsg s = (⟨3, v1, v2, v3, v4, v5, v6, false, v7, zE, zP⟩, s8) by
  rw [HF0.out]
  unfold mBody
  rw [if_neg (by decide)]; rw [if_neg (by decide)]; rw [if_pos rfl]
  simp only [FM, PR, enOf, hv1, hs2, hv2, hs3, hv3, hs4, hv4, hs5, hv5, hs6, hv6, hs7, hv7, hs8])
 clear HF0 hv1 hs2 ho1 hv2 hs3 ho2 hv3 hs4 ho3 hv4 hs5 ho4 hv5 hs6 ho5 hv6 hs7 ho6 hv7 hs8 ho7 ho8
 have HQ := Lib.hid (show (s1.e != 0) = false by rw [he]; rfl)
 clear he
 go_enter Tryz.func60, Tryz.ntmps60
 go_upto_region 1 with fail
 obtain ⟨w1, hw1⟩ : ∃ w1, w.alloc (.cells #[.int .i64 0, .int .i64 0, .int .i64 0, .int .i64 0, .int .i64 0, .int .i64 0, .int .i64 0, .bool false, .slice none 0 0, .int .i64 0, .int .i64 0, .int .i64 0, .slice none 0 0, .int .i64 0, .int .i64 0, .int .i64 0, .slice none 0 0] 34) = w1 := ⟨_, rfl⟩
 rw [hw1] at HT1 ⊢
 clear hw1
 go_wp2_with fail
 have h4 := eNum_is HT1.out.i HT1.out.d HO0.out
 rw [HN.out.1, HN.out.2] at h4
 refine h4.mono ?_
 rintro e w2 ⟨rfl, h1, h2, h3⟩
 have HT2 := Lib.hid (HT1.out.call h1 h2 h3)
 clear h1 h2 h3 h4 HT1 HN
 go_wp2_with fail
 have h4 := eWrong_is HT2.out.i HT2.out.d false
 rw [eWrong_false] at h4
 refine h4.mono ?_
 rintro e w3 ⟨rfl, h1, h2, h3⟩
 have HT3 := Lib.hid (HT2.out.call h1 h2 h3)
 clear h1 h2 h3 h4 HT2
 have c1 : w3.cell? ⟨x, 1, none⟩ = some (.int .i64 s1.e) := by
  obtain ⟨A, c, g1, _⟩ := HT3.out.i
  simp [World.cell?, g1]
 have hq := HQ.out
 go_wp2_with fail
 clear c1 hq
 have h4 := eSmall_is HT3.out.i HT3.out.d HO1.out
 rw [HE1.out.1, HE1.out.2] at h4
 refine h4.mono ?_
 rintro e w4 ⟨rfl, h1, h2, h3⟩
 have HT4 := Lib.hid (HT3.out.call h1 h2 h3)
 clear h1 h2 h3 h4 HT3
 go_wp2_with fail
 have h4 := eSmall_is HT4.out.i HT4.out.d HO2.out
 rw [HE2.out.1, HE2.out.2] at h4
 refine h4.mono ?_
 rintro e w5 ⟨rfl, h1, h2, h3⟩
 have HT5 := Lib.hid (HT4.out.call h1 h2 h3)
 clear h1 h2 h3 h4 HT4
 go_upto_region 6 with fail
 have HT6 := Lib.hid (HT5.out.lay #[.int .i64 3, .int .i64 v1, .int .i64 v2, .int .i64 0, .int .i64 0, .int .i64 0, .int .i64 0, .bool false, .slice none 0 0, .int .i64 0, .int .i64 0, .int .i64 0, .slice none 0 0, .int .i64 0, .int .i64 0, .int .i64 0, .slice none 0 0])
 obtain ⟨g, hg⟩ : ∃ g, w5.heap.size = g := ⟨_, rfl⟩
 obtain ⟨w6, hw6⟩ : ∃ w6, w5.alloc (.cells #[.int .i64 3, .int .i64 v1, .int .i64 v2, .int .i64 0, .int .i64 0, .int .i64 0, .int .i64 0, .bool false, .slice none 0 0, .int .i64 0, .int .i64 0, .int .i64 0, .slice none 0 0, .int .i64 0, .int .i64 0, .int .i64 0, .slice none 0 0] 34) = w6 := ⟨_, rfl⟩
 rw [hg, hw6] at HT6
 rw [hw6, hg]
 clear hg hw6 HT5
 have b0 : w6.cell? ⟨g, 0, none⟩ = some (.int .i64 3) := (blk_cell HT6.out.y 0).trans rfl
 go_wp2_with fail
 have h4 := eNum_is HT6.out.i HT6.out.d HO3.out
 rw [HE3.out.1, HE3.out.2] at h4
 refine h4.mono ?_
 rintro e w7 ⟨rfl, h1, h2, h3⟩
 have HT7 := Lib.hid (HT6.out.call h1 h2 h3)
 clear h1 h2 h3 h4 HT6
 clear b0
 have d3 : w7.cell? ⟨g, 3, none⟩ = some (.int .i64 0) := (blk_cell HT7.out.y 3).trans rfl
 have z3 : w7.frozen? ⟨g, 3, none⟩ = false := blk_frozen HT7.out.y 3
 have d0 : w7.cell? ⟨g, 0, none⟩ = some (.int .i64 3) := (blk_cell HT7.out.y 0).trans rfl
 have z0 : w7.frozen? ⟨g, 0, none⟩ = false := blk_frozen HT7.out.y 0
 go_wp2_with fail
 have hT : Fr _ w0 w x g 34 _ #[.int .i64 3, .int .i64 v1, .int .i64 v2, .int .i64 v3, .int .i64 0, .int .i64 0, .int .i64 0, .bool false, .slice none 0 0, .int .i64 0, .int .i64 0, .int .i64 0, .slice none 0 0, .int .i64 0, .int .i64 0, .int .i64 0, .slice none 0 0] _ _ _ := (HT7.out.put 3 (.int .i64 v3))
 have HT8 := Lib.hid hT
 clear hT
 obtain ⟨w8, hw⟩ : ∃ W, (w7.setCell ⟨g, 3, none⟩ (.int .i64 v3)) = W := ⟨_, rfl⟩
 rw [hw] at HT8 ⊢
 clear hw HT7 d3 z3 d0 z0
 have h4 := eNum_is HT8.out.i HT8.out.d HO4.out
 rw [HE4.out.1, HE4.out.2] at h4
 refine h4.mono ?_
 rintro e w9 ⟨rfl, h1, h2, h3⟩
 have HT9 := Lib.hid (HT8.out.call h1 h2 h3)
 clear h1 h2 h3 h4 HT8
 have d4 : w9.cell? ⟨g, 4, none⟩ = some (.int .i64 0) := (blk_cell HT9.out.y 4).trans rfl
 have z4 : w9.frozen? ⟨g, 4, none⟩ = false := blk_frozen HT9.out.y 4
 have d0 : w9.cell? ⟨g, 0, none⟩ = some (.int .i64 3) := (blk_cell HT9.out.y 0).trans rfl
 have z0 : w9.frozen? ⟨g, 0, none⟩ = false := blk_frozen HT9.out.y 0
 go_wp2_with fail
 have hT : Fr _ w0 w x g 34 _ #[.int .i64 3, .int .i64 v1, .int .i64 v2, .int .i64 v3, .int .i64 v4, .int .i64 0, .int .i64 0, .bool false, .slice none 0 0, .int .i64 0, .int .i64 0, .int .i64 0, .slice none 0 0, .int .i64 0, .int .i64 0, .int .i64 0, .slice none 0 0] _ _ _ := (HT9.out.put 4 (.int .i64 v4))
 have HT10 := Lib.hid hT
 clear hT
 obtain ⟨w10, hw⟩ : ∃ W, (w9.setCell ⟨g, 4, none⟩ (.int .i64 v4)) = W := ⟨_, rfl⟩
 rw [hw] at HT10 ⊢
 clear hw HT9 d4 z4 d0 z0
 have h4 := eNum_is HT10.out.i HT10.out.d HO5.out
 rw [HE5.out.1, HE5.out.2] at h4
 refine h4.mono ?_
 rintro e w11 ⟨rfl, h1, h2, h3⟩
 have HT11 := Lib.hid (HT10.out.call h1 h2 h3)
 clear h1 h2 h3 h4 HT10
 have d5 : w11.cell? ⟨g, 5, none⟩ = some (.int .i64 0) := (blk_cell HT11.out.y 5).trans rfl
 have z5 : w11.frozen? ⟨g, 5, none⟩ = false := blk_frozen HT11.out.y 5
 have d0 : w11.cell? ⟨g, 0, none⟩ = some (.int .i64 3) := (blk_cell HT11.out.y 0).trans rfl
 have z0 : w11.frozen? ⟨g, 0, none⟩ = false := blk_frozen HT11.out.y 0
 go_wp2_with fail
 have hT : Fr _ w0 w x g 34 _ #[.int .i64 3, .int .i64 v1, .int .i64 v2, .int .i64 v3, .int .i64 v4, .int .i64 v5, .int .i64 0, .bool false, .slice none 0 0, .int .i64 0, .int .i64 0, .int .i64 0, .slice none 0 0, .int .i64 0, .int .i64 0, .int .i64 0, .slice none 0 0] _ _ _ := (HT11.out.put 5 (.int .i64 v5))
 have HT12 := Lib.hid hT
 clear hT
 obtain ⟨w12, hw⟩ : ∃ W, (w11.setCell ⟨g, 5, none⟩ (.int .i64 v5)) = W := ⟨_, rfl⟩
 rw [hw] at HT12 ⊢
 clear hw HT11 d5 z5 d0 z0
 have h4 := eNum_is HT12.out.i HT12.out.d HO6.out
 rw [HE6.out.1, HE6.out.2] at h4
 refine h4.mono ?_
 rintro e w13 ⟨rfl, h1, h2, h3⟩
 have HT13 := Lib.hid (HT12.out.call h1 h2 h3)
 clear h1 h2 h3 h4 HT12
 have d6 : w13.cell? ⟨g, 6, none⟩ = some (.int .i64 0) := (blk_cell HT13.out.y 6).trans rfl
 have z6 : w13.frozen? ⟨g, 6, none⟩ = false := blk_frozen HT13.out.y 6
 have d0 : w13.cell? ⟨g, 0, none⟩ = some (.int .i64 3) := (blk_cell HT13.out.y 0).trans rfl
 have z0 : w13.frozen? ⟨g, 0, none⟩ = false := blk_frozen HT13.out.y 0
 go_wp2_with fail
 have hT : Fr _ w0 w x g 34 _ #[.int .i64 3, .int .i64 v1, .int .i64 v2, .int .i64 v3, .int .i64 v4, .int .i64 v5, .int .i64 v6, .bool false, .slice none 0 0, .int .i64 0, .int .i64 0, .int .i64 0, .slice none 0 0, .int .i64 0, .int .i64 0, .int .i64 0, .slice none 0 0] _ _ _ := (HT13.out.put 6 (.int .i64 v6))
 have HT14 := Lib.hid hT
 clear hT
 obtain ⟨w14, hw⟩ : ∃ W, (w13.setCell ⟨g, 6, none⟩ (.int .i64 v6)) = W := ⟨_, rfl⟩
 rw [hw] at HT14 ⊢
 clear hw HT13 d6 z6 d0 z0
 have h4 := eList_trs HT14.out.i HT14.out.d HO7.out
 rw [HE7.out.1, HE7.out.2] at h4
 refine h4.mono ?_
 rintro e w15 ⟨v_, rfl, hv, h1, h2, h3⟩
 obtain ⟨A8, c8, rfl⟩ := Kd.R_slice (Kd.S_R hv)
 have HT15 := Lib.hid (HT14.out.callS h1 h2 h3 hv)
 have HLO15 := Lib.hid (show w14.heap.size ≤ w15.heap.size from h3.size)
 clear h1 h2 h3 h4 hv HT14
 have d8 : w15.cell? ⟨g, 8, none⟩ = some (.slice none 0 0) := (blk_cell HT15.out.y 8).trans rfl
 have z8 : w15.frozen? ⟨g, 8, none⟩ = false := blk_frozen HT15.out.y 8
 have d0 : w15.cell? ⟨g, 0, none⟩ = some (.int .i64 3) := (blk_cell HT15.out.y 0).trans rfl
 have z0 : w15.frozen? ⟨g, 0, none⟩ = false := blk_frozen HT15.out.y 0
 go_upto_region 28 with fail
 have hT : Fr _ w0 w x g 34 _ #[.int .i64 3, .int .i64 v1, .int .i64 v2, .int .i64 v3, .int .i64 v4, .int .i64 v5, .int .i64 v6, .bool false, .slice A8 v7.length c8, .int .i64 0, .int .i64 0, .int .i64 0, .slice none 0 0, .int .i64 0, .int .i64 0, .int .i64 0, .slice none 0 0] _ _ _ := (HT15.out.put 8 (.slice A8 v7.length c8))
 have HT16 := Lib.hid hT
 clear hT
 obtain ⟨w16, hw⟩ : ∃ W, (w15.setCell ⟨g, 8, none⟩ (.slice A8 v7.length c8)) = W := ⟨_, rfl⟩
 rw [hw] at HT16 ⊢
 clear hw HT15 d8 z8 d0 z0
 refine wp_region_list ?_
 refine wpList_load_row rfl 34 (.tmp 4) rfl g rfl 34 #[.int .i64 3, .int .i64 v1, .int .i64 v2, .int .i64 v3, .int .i64 v4, .int .i64 v5, .int .i64 v6, .bool false, .slice A8 v7.length c8, .int .i64 0, .int .i64 0, .int .i64 0, .slice none 0 0, .int .i64 0, .int .i64 0, .int .i64 0, .slice none 0 0] (0, 0) _ HT16.out.y Tryz.underlying34 rfl (by kernel_rfl) ?_
 refine wpList_store_row rfl 34 (.tmp 2) (.tmp 94) rfl w.heap.size #[.int .i64 3, .int .i64 v1, .int .i64 v2, .int .i64 v3, .int .i64 v4, .int .i64 v5, .int .i64 v6, .bool false, .slice A8 v7.length c8, .int .i64 0, .int .i64 0, .int .i64 0, .slice none 0 0, .int .i64 0, .int .i64 0, .int .i64 0, .slice none 0 0] rfl rfl 34 #[.int .i64 0, .int .i64 0, .int .i64 0, .int .i64 0, .int .i64 0, .int .i64 0, .int .i64 0, .bool false, .slice none 0 0, .int .i64 0, .int .i64 0, .int .i64 0, .slice none 0 0, .int .i64 0, .int .i64 0, .int .i64 0, .slice none 0 0] HT16.out.g0 (by kernel_rfl) rfl (by simp [Value.oneCell']) ?_
 have HD := Lib.hid (HT16.out.fin (cs' := #[.int .i64 3, .int .i64 v1, .int .i64 v2, .int .i64 v3, .int .i64 v4, .int .i64 v5, .int .i64 v6, .bool false, .slice A8 v7.length c8, .int .i64 0, .int .i64 0, .int .i64 0, .slice none 0 0, .int .i64 0, .int .i64 0, .int .i64 0, .slice none 0 0]))
 obtain ⟨W, hW⟩ : ∃ W, w16.setRow w.heap.size #[.int .i64 3, .int .i64 v1, .int .i64 v2, .int .i64 v3, .int .i64 v4, .int .i64 v5, .int .i64 v6, .bool false, .slice A8 v7.length c8, .int .i64 0, .int .i64 0, .int .i64 0, .slice none 0 0, .int .i64 0, .int .i64 0, .int .i64 0, .slice none 0 0] = W := ⟨_, rfl⟩
 rw [hW] at HD ⊢
 clear hW
 go_wp2_with fail
 refine bodyPost_ret (results_cell_row rfl _ _ w.heap.size 34 #[.int .i64 3, .int .i64 v1, .int .i64 v2, .int .i64 v3, .int .i64 v4, .int .i64 v5, .int .i64 v6, .bool false, .slice A8 v7.length c8, .int .i64 0, .int .i64 0, .int .i64 0, .slice none 0 0, .int .i64 0, .int .i64 0, .int .i64 0, .slice none 0 0] (0, 0) _ rfl HD.out.1 Tryz.underlying34 rfl (by kernel_rfl)) rfl ?_
 rw [HF.out]
 obtain ⟨_, hp, i, d, q⟩ := HD.out
 exact ⟨_, _, _, rfl, Kd.R_mono (Kd.S_R hp.2) (fun _ _ => trivial), Kd.R_nil _ _ _ _ _, Kd.R_nil _ _ _ _ _, i, d, q⟩
set_option maxHeartbeats 4000000 in
theorem eMsg5 {w0 w : World} {x : Nat} {s : EyeS} (hI : IsEye w0 w x s) (hB : Below w0.heap.size w0 w) (hok : okS s) (hk : (eNum s).1 = 5) (he : (eNum s).2.e = 0) :
  Calls Tryz.prog 60 #[.pointer (some ⟨x, 0, none⟩)] w fun e w' => MsP (fun W s => IsEye w0 W x s) w0 w x (eMsg s).1 (eMsg s).2 e w' := by
 have HT1 := Lib.hid (Fo.start (I := fun W s => IsEye w0 W x s) (T := 34) (zs := #[.int .i64 0, .int .i64 0, .int .i64 0, .int .i64 0, .int .i64 0, .int .i64 0, .int .i64 0, .bool false, .slice none 0 0, .int .i64 0, .int .i64 0, .int .i64 0, .slice none 0 0, .int .i64 0, .int .i64 0, .int .i64 0, .slice none 0 0]) hI hB hI.lt hI.ge (fun _ _ _ e h => h.at e))
 obtain ⟨s1, hs1⟩ : ∃ s1, (eNum s).2 = s1 := ⟨_, rfl⟩
 have HN := Lib.hid (And.intro hk hs1)
 have HO0 := Lib.hid hok
 have ho1 := okS_num hok
 rw [hs1] at ho1 he
 have HF0 := Lib.hid (show eMsg s = mBody eSmall eEntry (eList eTr) 5 s1 by
  have hm : eMk s = s1 := by unfold eMk; rw [hk, hs1]; exact eWrong_false _
  unfold eMsg
  rw [hm, if_neg (fun q => q he), hk])
 clear hI hB hok hk hs1
 obtain ⟨v1, hv1⟩ : ∃ v, (eSmall s1).1 = v := ⟨_, rfl⟩
 obtain ⟨s2, hs2⟩ : ∃ t, (eSmall s1).2 = t := ⟨_, rfl⟩
 have ho2 := okS_small ho1
 rw [hs2] at ho2
 have HO1 := Lib.hid ho1; have HE1 := Lib.hid (And.intro hv1 hs2)
 obtain ⟨v2, hv2⟩ : ∃ v, (eSmall s2).1 = v := ⟨_, rfl⟩
 obtain ⟨s3, hs3⟩ : ∃ t, (eSmall s2).2 = t := ⟨_, rfl⟩
 have ho3 := okS_small ho2
 rw [hs3] at ho3
 have HO2 := Lib.hid ho2; have HE2 := Lib.hid (And.intro hv2 hs3)
 obtain ⟨v3, hv3⟩ : ∃ v, (eNum s3).1 = v := ⟨_, rfl⟩
 obtain ⟨s4, hs4⟩ : ∃ t, (eNum s3).2 = t := ⟨_, rfl⟩
 have ho4 := okS_num ho3
 rw [hs4] at ho4
 have HO3 := Lib.hid ho3; have HE3 := Lib.hid (And.intro hv3 hs4)
 obtain ⟨v4, hv4⟩ : ∃ v, (eNum s4).1 = v := ⟨_, rfl⟩
 obtain ⟨s5, hs5⟩ : ∃ t, (eNum s4).2 = t := ⟨_, rfl⟩
 have ho5 := okS_num ho4
 rw [hs5] at ho5
 have HO4 := Lib.hid ho4; have HE4 := Lib.hid (And.intro hv4 hs5)
 obtain ⟨v5, hv5⟩ : ∃ v, (eNum s5).1 = v := ⟨_, rfl⟩
 obtain ⟨s6, hs6⟩ : ∃ t, (eNum s5).2 = t := ⟨_, rfl⟩
 have ho6 := okS_num ho5
 rw [hs6] at ho6
 have HO5 := Lib.hid ho5; have HE5 := Lib.hid (And.intro hv5 hs6)
 obtain ⟨v6, hv6⟩ : ∃ v, (eNum s6).1 = v := ⟨_, rfl⟩
 obtain ⟨s7, hs7⟩ : ∃ t, (eNum s6).2 = t := ⟨_, rfl⟩
 have ho7 := okS_num ho6
 rw [hs7] at ho7
 have HO6 := Lib.hid ho6; have HE6 := Lib.hid (And.intro hv6 hs7)
 obtain ⟨v7, hv7⟩ : ∃ v, (eSmall s7).1 = v := ⟨_, rfl⟩
 obtain ⟨s8, hs8⟩ : ∃ t, (eSmall s7).2 = t := ⟨_, rfl⟩
 have ho8 := okS_small ho7
 rw [hs8] at ho8
 have HO7 := Lib.hid ho7; have HE7 := Lib.hid (And.intro hv7 hs8)
 obtain ⟨v8, hv8⟩ : ∃ v, (eSmall s8).1 = v := ⟨_, rfl⟩
 obtain ⟨s9, hs9⟩ : ∃ t, (eSmall s8).2 = t := ⟨_, rfl⟩
 have ho9 := okS_small ho8
 rw [hs9] at ho9
 have HO8 := Lib.hid ho8; have HE8 := Lib.hid (And.intro hv8 hs9)
 obtain ⟨v9, hv9⟩ : ∃ v, (eData s9).1 = v := ⟨_, rfl⟩
 obtain ⟨s10, hs10⟩ : ∃ t, (eData s9).2 = t := ⟨_, rfl⟩
 have ho10 := okS_data ho9
 rw [hs10] at ho10
 have HO9 := Lib.hid ho9; have HE9 := Lib.hid (And.intro hv9 hs10)
 have HF := Lib.hid (show eMsg s = (⟨5, v1, v2, v3, v4, v5, 0, false, [], zE, ⟨v6, v7, v8, v9⟩⟩, s10) by
  rw [HF0.out]
  unfold mBody
  rw [if_neg (by decide)]; rw [if_neg (by decide)]; rw [if_neg (by decide)]; rw [if_neg (by decide)]; rw [if_pos rfl]; unfold ptOf
  simp only [FM, PR, enOf, hv1, hs2, hv2, hs3, hv3, hs4, hv4, hs5, hv5, hs6, hv6, hs7, hv7, hs8, hv8, hs9, hv9, hs10])
 clear HF0 hv1 hs2 ho1 hv2 hs3 ho2 hv3 hs4 ho3 hv4 hs5 ho4 hv5 hs6 ho5 hv6 hs7 ho6 hv7 hs8 ho7 hv8 hs9 ho8 hv9 hs10 ho9 ho10
 have HQ := Lib.hid (show (s1.e != 0) = false by rw [he]; rfl)
 clear he
 go_enter Tryz.func60, Tryz.ntmps60
 go_upto_region 1 with fail
 obtain ⟨w1, hw1⟩ : ∃ w1, w.alloc (.cells #[.int .i64 0, .int .i64 0, .int .i64 0, .int .i64 0, .int .i64 0, .int .i64 0, .int .i64 0, .bool false, .slice none 0 0, .int .i64 0, .int .i64 0, .int .i64 0, .slice none 0 0, .int .i64 0, .int .i64 0, .int .i64 0, .slice none 0 0] 34) = w1 := ⟨_, rfl⟩
 rw [hw1] at HT1 ⊢
 clear hw1
 go_wp2_with fail
 have h4 := eNum_is HT1.out.i HT1.out.d HO0.out
 rw [HN.out.1, HN.out.2] at h4
 refine h4.mono ?_
 rintro e w2 ⟨rfl, h1, h2, h3⟩
 have HT2 := Lib.hid (HT1.out.call h1 h2 h3)
 clear h1 h2 h3 h4 HT1 HN
 go_wp2_with fail
 have h4 := eWrong_is HT2.out.i HT2.out.d false
 rw [eWrong_false] at h4
 refine h4.mono ?_
 rintro e w3 ⟨rfl, h1, h2, h3⟩
 have HT3 := Lib.hid (HT2.out.call h1 h2 h3)
 clear h1 h2 h3 h4 HT2
 have c1 : w3.cell? ⟨x, 1, none⟩ = some (.int .i64 s1.e) := by
  obtain ⟨A, c, g1, _⟩ := HT3.out.i
  simp [World.cell?, g1]
 have hq := HQ.out
 go_wp2_with fail
 clear c1 hq
 have h4 := eSmall_is HT3.out.i HT3.out.d HO1.out
 rw [HE1.out.1, HE1.out.2] at h4
 refine h4.mono ?_
 rintro e w4 ⟨rfl, h1, h2, h3⟩
 have HT4 := Lib.hid (HT3.out.call h1 h2 h3)
 clear h1 h2 h3 h4 HT3
 go_wp2_with fail
 have h4 := eSmall_is HT4.out.i HT4.out.d HO2.out
 rw [HE2.out.1, HE2.out.2] at h4
 refine h4.mono ?_
 rintro e w5 ⟨rfl, h1, h2, h3⟩
 have HT5 := Lib.hid (HT4.out.call h1 h2 h3)
 clear h1 h2 h3 h4 HT4
 go_upto_region 6 with fail
 have HT6 := Lib.hid (HT5.out.lay #[.int .i64 5, .int .i64 v1, .int .i64 v2, .int .i64 0, .int .i64 0, .int .i64 0, .int .i64 0, .bool false, .slice none 0 0, .int .i64 0, .int .i64 0, .int .i64 0, .slice none 0 0, .int .i64 0, .int .i64 0, .int .i64 0, .slice none 0 0])
 obtain ⟨g, hg⟩ : ∃ g, w5.heap.size = g := ⟨_, rfl⟩
 obtain ⟨w6, hw6⟩ : ∃ w6, w5.alloc (.cells #[.int .i64 5, .int .i64 v1, .int .i64 v2, .int .i64 0, .int .i64 0, .int .i64 0, .int .i64 0, .bool false, .slice none 0 0, .int .i64 0, .int .i64 0, .int .i64 0, .slice none 0 0, .int .i64 0, .int .i64 0, .int .i64 0, .slice none 0 0] 34) = w6 := ⟨_, rfl⟩
 rw [hg, hw6] at HT6
 rw [hw6, hg]
 clear hg hw6 HT5
 have b0 : w6.cell? ⟨g, 0, none⟩ = some (.int .i64 5) := (blk_cell HT6.out.y 0).trans rfl
 go_wp2_with fail
 have h4 := eNum_is HT6.out.i HT6.out.d HO3.out
 rw [HE3.out.1, HE3.out.2] at h4
 refine h4.mono ?_
 rintro e w7 ⟨rfl, h1, h2, h3⟩
 have HT7 := Lib.hid (HT6.out.call h1 h2 h3)
 clear h1 h2 h3 h4 HT6
 clear b0
 have d3 : w7.cell? ⟨g, 3, none⟩ = some (.int .i64 0) := (blk_cell HT7.out.y 3).trans rfl
 have z3 : w7.frozen? ⟨g, 3, none⟩ = false := blk_frozen HT7.out.y 3
 have d0 : w7.cell? ⟨g, 0, none⟩ = some (.int .i64 5) := (blk_cell HT7.out.y 0).trans rfl
 have z0 : w7.frozen? ⟨g, 0, none⟩ = false := blk_frozen HT7.out.y 0
 go_wp2_with fail
 have hT : Fr _ w0 w x g 34 _ #[.int .i64 5, .int .i64 v1, .int .i64 v2, .int .i64 v3, .int .i64 0, .int .i64 0, .int .i64 0, .bool false, .slice none 0 0, .int .i64 0, .int .i64 0, .int .i64 0, .slice none 0 0, .int .i64 0, .int .i64 0, .int .i64 0, .slice none 0 0] _ _ _ := (HT7.out.put 3 (.int .i64 v3))
 have HT8 := Lib.hid hT
 clear hT
 obtain ⟨w8, hw⟩ : ∃ W, (w7.setCell ⟨g, 3, none⟩ (.int .i64 v3)) = W := ⟨_, rfl⟩
 rw [hw] at HT8 ⊢
 clear hw HT7 d3 z3 d0 z0
 have h4 := eNum_is HT8.out.i HT8.out.d HO4.out
 rw [HE4.out.1, HE4.out.2] at h4
 refine h4.mono ?_
 rintro e w9 ⟨rfl, h1, h2, h3⟩
 have HT9 := Lib.hid (HT8.out.call h1 h2 h3)
 clear h1 h2 h3 h4 HT8
 have d4 : w9.cell? ⟨g, 4, none⟩ = some (.int .i64 0) := (blk_cell HT9.out.y 4).trans rfl
 have z4 : w9.frozen? ⟨g, 4, none⟩ = false := blk_frozen HT9.out.y 4
 have d0 : w9.cell? ⟨g, 0, none⟩ = some (.int .i64 5) := (blk_cell HT9.out.y 0).trans rfl
 have z0 : w9.frozen? ⟨g, 0, none⟩ = false := blk_frozen HT9.out.y 0
 go_wp2_with fail
 have hT : Fr _ w0 w x g 34 _ #[.int .i64 5, .int .i64 v1, .int .i64 v2, .int .i64 v3, .int .i64 v4, .int .i64 0, .int .i64 0, .bool false, .slice none 0 0, .int .i64 0, .int .i64 0, .int .i64 0, .slice none 0 0, .int .i64 0, .int .i64 0, .int .i64 0, .slice none 0 0] _ _ _ := (HT9.out.put 4 (.int .i64 v4))
 have HT10 := Lib.hid hT
 clear hT
 obtain ⟨w10, hw⟩ : ∃ W, (w9.setCell ⟨g, 4, none⟩ (.int .i64 v4)) = W := ⟨_, rfl⟩
 rw [hw] at HT10 ⊢
 clear hw HT9 d4 z4 d0 z0
 have h4 := eNum_is HT10.out.i HT10.out.d HO5.out
 rw [HE5.out.1, HE5.out.2] at h4
 refine h4.mono ?_
 rintro e w11 ⟨rfl, h1, h2, h3⟩
 have HT11 := Lib.hid (HT10.out.call h1 h2 h3)
 clear h1 h2 h3 h4 HT10
 have d5 : w11.cell? ⟨g, 5, none⟩ = some (.int .i64 0) := (blk_cell HT11.out.y 5).trans rfl
 have z5 : w11.frozen? ⟨g, 5, none⟩ = false := blk_frozen HT11.out.y 5
 have d0 : w11.cell? ⟨g, 0, none⟩ = some (.int .i64 5) := (blk_cell HT11.out.y 0).trans rfl
 have z0 : w11.frozen? ⟨g, 0, none⟩ = false := blk_frozen HT11.out.y 0
 go_wp2_with fail
 have hT : Fr _ w0 w x g 34 _ #[.int .i64 5, .int .i64 v1, .int .i64 v2, .int .i64 v3, .int .i64 v4, .int .i64 v5, .int .i64 0, .bool false, .slice none 0 0, .int .i64 0, .int .i64 0, .int .i64 0, .slice none 0 0, .int .i64 0, .int .i64 0, .int .i64 0, .slice none 0 0] _ _ _ := (HT11.out.put 5 (.int .i64 v5))
 have HT12 := Lib.hid hT
 clear hT
 obtain ⟨w12, hw⟩ : ∃ W, (w11.setCell ⟨g, 5, none⟩ (.int .i64 v5)) = W := ⟨_, rfl⟩
 rw [hw] at HT12 ⊢
 clear hw HT11 d5 z5 d0 z0
 have h4 := eNum_is HT12.out.i HT12.out.d HO6.out
 rw [HE6.out.1, HE6.out.2] at h4
 refine h4.mono ?_
 rintro e w13 ⟨rfl, h1, h2, h3⟩
 have HT13 := Lib.hid (HT12.out.call h1 h2 h3)
 clear h1 h2 h3 h4 HT12
 go_wp2_with fail
 have h4 := eSmall_is HT13.out.i HT13.out.d HO7.out
 rw [HE7.out.1, HE7.out.2] at h4
 refine h4.mono ?_
 rintro e w14 ⟨rfl, h1, h2, h3⟩
 have HT14 := Lib.hid (HT13.out.call h1 h2 h3)
 clear h1 h2 h3 h4 HT13
 go_wp2_with fail
 have h4 := eSmall_is HT14.out.i HT14.out.d HO8.out
 rw [HE8.out.1, HE8.out.2] at h4
 refine h4.mono ?_
 rintro e w15 ⟨rfl, h1, h2, h3⟩
 have HT15 := Lib.hid (HT14.out.call h1 h2 h3)
 clear h1 h2 h3 h4 HT14
 go_wp2_with fail
 have h4 := eData_is HT15.out.i HT15.out.d HO9.out
 rw [HE9.out.1, HE9.out.2] at h4
 refine h4.mono ?_
 rintro e w16 ⟨v_, rfl, hv, h1, h2, h3⟩
 obtain ⟨A16, c16, rfl⟩ := Kd.R_slice hv
 have HT16 := Lib.hid (HT15.out.callR h1 h2 h3 hv)
 have HLO16 := Lib.hid (show w15.heap.size ≤ w16.heap.size from h3.size)
 clear h1 h2 h3 h4 hv HT15
 have d13 : w16.cell? ⟨g, 13, none⟩ = some (.int .i64 0) := (blk_cell HT16.out.y 13).trans rfl
 have z13 : w16.frozen? ⟨g, 13, none⟩ = false := blk_frozen HT16.out.y 13
 have d14 : w16.cell? ⟨g, 14, none⟩ = some (.int .i64 0) := (blk_cell HT16.out.y 14).trans rfl
 have z14 : w16.frozen? ⟨g, 14, none⟩ = false := blk_frozen HT16.out.y 14
 have d15 : w16.cell? ⟨g, 15, none⟩ = some (.int .i64 0) := (blk_cell HT16.out.y 15).trans rfl
 have z15 : w16.frozen? ⟨g, 15, none⟩ = false := blk_frozen HT16.out.y 15
 have d16 : w16.cell? ⟨g, 16, none⟩ = some (.slice none 0 0) := (blk_cell HT16.out.y 16).trans rfl
 have z16 : w16.frozen? ⟨g, 16, none⟩ = false := blk_frozen HT16.out.y 16
 have d0 : w16.cell? ⟨g, 0, none⟩ = some (.int .i64 5) := (blk_cell HT16.out.y 0).trans rfl
 have z0 : w16.frozen? ⟨g, 0, none⟩ = false := blk_frozen HT16.out.y 0
 go_upto_region 28 with fail
 have hT : Fr _ w0 w x g 34 _ #[.int .i64 5, .int .i64 v1, .int .i64 v2, .int .i64 v3, .int .i64 v4, .int .i64 v5, .int .i64 0, .bool false, .slice none 0 0, .int .i64 0, .int .i64 0, .int .i64 0, .slice none 0 0, .int .i64 v6, .int .i64 v7, .int .i64 v8, .slice A16 v9.length c16] _ _ _ := ((((HT16.out.put 13 (.int .i64 v6)).put 14 (.int .i64 v7)).put 15 (.int .i64 v8)).put 16 (.slice A16 v9.length c16))
 have HT17 := Lib.hid hT
 clear hT
 obtain ⟨w17, hw⟩ : ∃ W, ((((w16.setCell ⟨g, 13, none⟩ (.int .i64 v6)).setCell ⟨g, 14, none⟩ (.int .i64 v7)).setCell ⟨g, 15, none⟩ (.int .i64 v8)).setCell ⟨g, 16, none⟩ (.slice A16 v9.length c16)) = W := ⟨_, rfl⟩
 rw [hw] at HT17 ⊢
 clear hw HT16 d13 z13 d14 z14 d15 z15 d16 z16 d0 z0
 refine wp_region_list ?_
 refine wpList_load_row rfl 34 (.tmp 4) rfl g rfl 34 #[.int .i64 5, .int .i64 v1, .int .i64 v2, .int .i64 v3, .int .i64 v4, .int .i64 v5, .int .i64 0, .bool false, .slice none 0 0, .int .i64 0, .int .i64 0, .int .i64 0, .slice none 0 0, .int .i64 v6, .int .i64 v7, .int .i64 v8, .slice A16 v9.length c16] (0, 0) _ HT17.out.y Tryz.underlying34 rfl (by kernel_rfl) ?_
 refine wpList_store_row rfl 34 (.tmp 2) (.tmp 94) rfl w.heap.size #[.int .i64 5, .int .i64 v1, .int .i64 v2, .int .i64 v3, .int .i64 v4, .int .i64 v5, .int .i64 0, .bool false, .slice none 0 0, .int .i64 0, .int .i64 0, .int .i64 0, .slice none 0 0, .int .i64 v6, .int .i64 v7, .int .i64 v8, .slice A16 v9.length c16] rfl rfl 34 #[.int .i64 0, .int .i64 0, .int .i64 0, .int .i64 0, .int .i64 0, .int .i64 0, .int .i64 0, .bool false, .slice none 0 0, .int .i64 0, .int .i64 0, .int .i64 0, .slice none 0 0, .int .i64 0, .int .i64 0, .int .i64 0, .slice none 0 0] HT17.out.g0 (by kernel_rfl) rfl (by simp [Value.oneCell']) ?_
 have HD := Lib.hid (HT17.out.fin (cs' := #[.int .i64 5, .int .i64 v1, .int .i64 v2, .int .i64 v3, .int .i64 v4, .int .i64 v5, .int .i64 0, .bool false, .slice none 0 0, .int .i64 0, .int .i64 0, .int .i64 0, .slice none 0 0, .int .i64 v6, .int .i64 v7, .int .i64 v8, .slice A16 v9.length c16]))
 obtain ⟨W, hW⟩ : ∃ W, w17.setRow w.heap.size #[.int .i64 5, .int .i64 v1, .int .i64 v2, .int .i64 v3, .int .i64 v4, .int .i64 v5, .int .i64 0, .bool false, .slice none 0 0, .int .i64 0, .int .i64 0, .int .i64 0, .slice none 0 0, .int .i64 v6, .int .i64 v7, .int .i64 v8, .slice A16 v9.length c16] = W := ⟨_, rfl⟩
 rw [hW] at HD ⊢
 clear hW
 go_wp2_with fail
 refine bodyPost_ret (results_cell_row rfl _ _ w.heap.size 34 #[.int .i64 5, .int .i64 v1, .int .i64 v2, .int .i64 v3, .int .i64 v4, .int .i64 v5, .int .i64 0, .bool false, .slice none 0 0, .int .i64 0, .int .i64 0, .int .i64 0, .slice none 0 0, .int .i64 v6, .int .i64 v7, .int .i64 v8, .slice A16 v9.length c16] (0, 0) _ rfl HD.out.1 Tryz.underlying34 rfl (by kernel_rfl)) rfl ?_
 rw [HF.out]
 obtain ⟨_, hp, i, d, q⟩ := HD.out
 exact ⟨_, _, _, rfl, Kd.R_nil _ _ _ _ _, Kd.R_nil _ _ _ _ _, Kd.R_mono hp.2 (fun _ _ => trivial), i, d, q⟩
end Go.Proofs.YtgiefblcckikeaaGreat.M
end

section
/- The eye: a message, the rest (printed by geneym04.py). -/
set_option maxRecDepth 100000
attribute [local irreducible] Go.wpStill
namespace Go.Proofs.YtgiefblcckikeaaGreat.M
open Go.RowKit Go.Proofs.YtgiefblcckikeaaGreatW.PrintWords Go.Proofs.YtgiefblcckikeaaGreatW.PrintLast Go.Proofs.YtgiefblcckikeaaGreatW.PrintMore Go.Proofs.YtgiefblcckikeaaGreat.G
set_option maxHeartbeats 4000000 in
theorem eMsg6 {w0 w : World} {x : Nat} {s : EyeS} (hI : IsEye w0 w x s) (hB : Below w0.heap.size w0 w) (hok : okS s) (hk : (eNum s).1 = 6) (he : (eNum s).2.e = 0) :
  Calls Tryz.prog 60 #[.pointer (some ⟨x, 0, none⟩)] w fun e w' => MsP (fun W s => IsEye w0 W x s) w0 w x (eMsg s).1 (eMsg s).2 e w' := by
 have HT1 := Lib.hid (Fo.start (I := fun W s => IsEye w0 W x s) (T := 34) (zs := #[.int .i64 0, .int .i64 0, .int .i64 0, .int .i64 0, .int .i64 0, .int .i64 0, .int .i64 0, .bool false, .slice none 0 0, .int .i64 0, .int .i64 0, .int .i64 0, .slice none 0 0, .int .i64 0, .int .i64 0, .int .i64 0, .slice none 0 0]) hI hB hI.lt hI.ge (fun _ _ _ e h => h.at e))
 obtain ⟨s1, hs1⟩ : ∃ s1, (eNum s).2 = s1 := ⟨_, rfl⟩
 have HN := Lib.hid (And.intro hk hs1)
 have HO0 := Lib.hid hok
 have ho1 := okS_num hok
 rw [hs1] at ho1 he
 have HF0 := Lib.hid (show eMsg s = mBody eSmall eEntry (eList eTr) 6 s1 by
  have hm : eMk s = s1 := by unfold eMk; rw [hk, hs1]; exact eWrong_false _
  unfold eMsg
  rw [hm, if_neg (fun q => q he), hk])
 clear hI hB hok hk hs1
 obtain ⟨v1, hv1⟩ : ∃ v, (eSmall s1).1 = v := ⟨_, rfl⟩
 obtain ⟨s2, hs2⟩ : ∃ t, (eSmall s1).2 = t := ⟨_, rfl⟩
 have ho2 := okS_small ho1
 rw [hs2] at ho2
 have HO1 := Lib.hid ho1; have HE1 := Lib.hid (And.intro hv1 hs2)
 obtain ⟨v2, hv2⟩ : ∃ v, (eSmall s2).1 = v := ⟨_, rfl⟩
 obtain ⟨s3, hs3⟩ : ∃ t, (eSmall s2).2 = t := ⟨_, rfl⟩
 have ho3 := okS_small ho2
 rw [hs3] at ho3
 have HO2 := Lib.hid ho2; have HE2 := Lib.hid (And.intro hv2 hs3)
 obtain ⟨⟨y0, y1, y2, yl⟩, hv3⟩ : ∃ v, (eEntry s3).1 = v := ⟨_, rfl⟩
 obtain ⟨s4, hs4⟩ : ∃ t, (eEntry s3).2 = t := ⟨_, rfl⟩
 have ho4 := okS_entry ho3
 rw [hs4] at ho4
 have HO3 := Lib.hid ho3; have HE3 := Lib.hid (And.intro hv3 hs4)
 have HF := Lib.hid (show eMsg s = (⟨6, v1, v2, 0, 0, 0, 0, false, [], ⟨y0, y1, y2, yl⟩, zP⟩, s4) by
  rw [HF0.out]
  unfold mBody
  rw [if_neg (by decide)]; rw [if_neg (by decide)]; rw [if_neg (by decide)]; rw [if_neg (by decide)]; rw [if_neg (by decide)]; rw [if_pos rfl]
  simp only [FM, PR, enOf, hv1, hs2, hv2, hs3, hv3, hs4])
 clear HF0 hv1 hs2 ho1 hv2 hs3 ho2 hv3 hs4 ho3 ho4
 have HQ := Lib.hid (show (s1.e != 0) = false by rw [he]; rfl)
 clear he
 go_enter Tryz.func60, Tryz.ntmps60
 go_upto_region 1 with fail
 obtain ⟨w1, hw1⟩ : ∃ w1, w.alloc (.cells #[.int .i64 0, .int .i64 0, .int .i64 0, .int .i64 0, .int .i64 0, .int .i64 0, .int .i64 0, .bool false, .slice none 0 0, .int .i64 0, .int .i64 0, .int .i64 0, .slice none 0 0, .int .i64 0, .int .i64 0, .int .i64 0, .slice none 0 0] 34) = w1 := ⟨_, rfl⟩
 rw [hw1] at HT1 ⊢
 clear hw1
 go_wp2_with fail
 have h4 := eNum_is HT1.out.i HT1.out.d HO0.out
 rw [HN.out.1, HN.out.2] at h4
 refine h4.mono ?_
 rintro e w2 ⟨rfl, h1, h2, h3⟩
 have HT2 := Lib.hid (HT1.out.call h1 h2 h3)
 clear h1 h2 h3 h4 HT1 HN
 go_wp2_with fail
 have h4 := eWrong_is HT2.out.i HT2.out.d false
 rw [eWrong_false] at h4
 refine h4.mono ?_
 rintro e w3 ⟨rfl, h1, h2, h3⟩
 have HT3 := Lib.hid (HT2.out.call h1 h2 h3)
 clear h1 h2 h3 h4 HT2
 have c1 : w3.cell? ⟨x, 1, none⟩ = some (.int .i64 s1.e) := by
  obtain ⟨A, c, g1, _⟩ := HT3.out.i
  simp [World.cell?, g1]
 have hq := HQ.out
 go_wp2_with fail
 clear c1 hq
 have h4 := eSmall_is HT3.out.i HT3.out.d HO1.out
 rw [HE1.out.1, HE1.out.2] at h4
 refine h4.mono ?_
 rintro e w4 ⟨rfl, h1, h2, h3⟩
 have HT4 := Lib.hid (HT3.out.call h1 h2 h3)
 clear h1 h2 h3 h4 HT3
 go_wp2_with fail
 have h4 := eSmall_is HT4.out.i HT4.out.d HO2.out
 rw [HE2.out.1, HE2.out.2] at h4
 refine h4.mono ?_
 rintro e w5 ⟨rfl, h1, h2, h3⟩
 have HT5 := Lib.hid (HT4.out.call h1 h2 h3)
 clear h1 h2 h3 h4 HT4
 go_upto_region 6 with fail
 have HT6 := Lib.hid (HT5.out.lay #[.int .i64 6, .int .i64 v1, .int .i64 v2, .int .i64 0, .int .i64 0, .int .i64 0, .int .i64 0, .bool false, .slice none 0 0, .int .i64 0, .int .i64 0, .int .i64 0, .slice none 0 0, .int .i64 0, .int .i64 0, .int .i64 0, .slice none 0 0])
 obtain ⟨g, hg⟩ : ∃ g, w5.heap.size = g := ⟨_, rfl⟩
 obtain ⟨w6, hw6⟩ : ∃ w6, w5.alloc (.cells #[.int .i64 6, .int .i64 v1, .int .i64 v2, .int .i64 0, .int .i64 0, .int .i64 0, .int .i64 0, .bool false, .slice none 0 0, .int .i64 0, .int .i64 0, .int .i64 0, .slice none 0 0, .int .i64 0, .int .i64 0, .int .i64 0, .slice none 0 0] 34) = w6 := ⟨_, rfl⟩
 rw [hg, hw6] at HT6
 rw [hw6, hg]
 clear hg hw6 HT5
 have b0 : w6.cell? ⟨g, 0, none⟩ = some (.int .i64 6) := (blk_cell HT6.out.y 0).trans rfl
 go_wp2_with fail
 have h4 := eEntry_is HT6.out.i HT6.out.d HO3.out
 rw [HE3.out.1, HE3.out.2] at h4
 refine h4.mono ?_
 rintro e w7 ⟨v_, rfl, hv, h1, h2, h3⟩
 have hv : Kd.S G.k26 26 w7 w6.heap.size (fun _ => True) v_ yl := hv
 obtain ⟨A12, c12, rfl⟩ := Kd.S_slice hv
 have HT7 := Lib.hid (HT6.out.callS h1 h2 h3 hv)
 clear h1 h2 h3 h4 hv HT6
 clear b0
 have d9 : w7.cell? ⟨g, 9, none⟩ = some (.int .i64 0) := (blk_cell HT7.out.y 9).trans rfl
 have z9 : w7.frozen? ⟨g, 9, none⟩ = false := blk_frozen HT7.out.y 9
 have d10 : w7.cell? ⟨g, 10, none⟩ = some (.int .i64 0) := (blk_cell HT7.out.y 10).trans rfl
 have z10 : w7.frozen? ⟨g, 10, none⟩ = false := blk_frozen HT7.out.y 10
 have d11 : w7.cell? ⟨g, 11, none⟩ = some (.int .i64 0) := (blk_cell HT7.out.y 11).trans rfl
 have z11 : w7.frozen? ⟨g, 11, none⟩ = false := blk_frozen HT7.out.y 11
 have d12 : w7.cell? ⟨g, 12, none⟩ = some (.slice none 0 0) := (blk_cell HT7.out.y 12).trans rfl
 have z12 : w7.frozen? ⟨g, 12, none⟩ = false := blk_frozen HT7.out.y 12
 have d0 : w7.cell? ⟨g, 0, none⟩ = some (.int .i64 6) := (blk_cell HT7.out.y 0).trans rfl
 have z0 : w7.frozen? ⟨g, 0, none⟩ = false := blk_frozen HT7.out.y 0
 go_upto_region 8 with fail
 have hT : Fr _ w0 w x g 34 _ #[.int .i64 6, .int .i64 v1, .int .i64 v2, .int .i64 0, .int .i64 0, .int .i64 0, .int .i64 0, .bool false, .slice none 0 0, .int .i64 y0, .int .i64 y1, .int .i64 y2, .slice A12 yl.length c12, .int .i64 0, .int .i64 0, .int .i64 0, .slice none 0 0] _ _ _ := ((((HT7.out.put 9 (.int .i64 y0)).put 10 (.int .i64 y1)).put 11 (.int .i64 y2)).put 12 (.slice A12 yl.length c12))
 have HT8 := Lib.hid hT
 clear hT
 obtain ⟨w8, hw⟩ : ∃ W, ((((w7.setCell ⟨g, 9, none⟩ (.int .i64 y0)).setCell ⟨g, 10, none⟩ (.int .i64 y1)).setCell ⟨g, 11, none⟩ (.int .i64 y2)).setCell ⟨g, 12, none⟩ (.slice A12 yl.length c12)) = W := ⟨_, rfl⟩
 rw [hw] at HT8 ⊢
 clear hw HT7 d9 z9 d10 z10 d11 z11 d12 z12 d0 z0
 refine wp_region_list ?_
 refine wpList_load_row rfl 34 (.tmp 4) rfl g rfl 34 #[.int .i64 6, .int .i64 v1, .int .i64 v2, .int .i64 0, .int .i64 0, .int .i64 0, .int .i64 0, .bool false, .slice none 0 0, .int .i64 y0, .int .i64 y1, .int .i64 y2, .slice A12 yl.length c12, .int .i64 0, .int .i64 0, .int .i64 0, .slice none 0 0] (0, 0) _ HT8.out.y Tryz.underlying34 rfl (by kernel_rfl) ?_
 refine wpList_store_row rfl 34 (.tmp 2) (.tmp 33) rfl w.heap.size #[.int .i64 6, .int .i64 v1, .int .i64 v2, .int .i64 0, .int .i64 0, .int .i64 0, .int .i64 0, .bool false, .slice none 0 0, .int .i64 y0, .int .i64 y1, .int .i64 y2, .slice A12 yl.length c12, .int .i64 0, .int .i64 0, .int .i64 0, .slice none 0 0] rfl rfl 34 #[.int .i64 0, .int .i64 0, .int .i64 0, .int .i64 0, .int .i64 0, .int .i64 0, .int .i64 0, .bool false, .slice none 0 0, .int .i64 0, .int .i64 0, .int .i64 0, .slice none 0 0, .int .i64 0, .int .i64 0, .int .i64 0, .slice none 0 0] HT8.out.g0 (by kernel_rfl) rfl (by simp [Value.oneCell']) ?_
 have HD := Lib.hid (HT8.out.fin (cs' := #[.int .i64 6, .int .i64 v1, .int .i64 v2, .int .i64 0, .int .i64 0, .int .i64 0, .int .i64 0, .bool false, .slice none 0 0, .int .i64 y0, .int .i64 y1, .int .i64 y2, .slice A12 yl.length c12, .int .i64 0, .int .i64 0, .int .i64 0, .slice none 0 0]))
 obtain ⟨W, hW⟩ : ∃ W, w8.setRow w.heap.size #[.int .i64 6, .int .i64 v1, .int .i64 v2, .int .i64 0, .int .i64 0, .int .i64 0, .int .i64 0, .bool false, .slice none 0 0, .int .i64 y0, .int .i64 y1, .int .i64 y2, .slice A12 yl.length c12, .int .i64 0, .int .i64 0, .int .i64 0, .slice none 0 0] = W := ⟨_, rfl⟩
 rw [hW] at HD ⊢
 clear hW
 go_wp2_with fail
 refine bodyPost_ret (results_cell_row rfl _ _ w.heap.size 34 #[.int .i64 6, .int .i64 v1, .int .i64 v2, .int .i64 0, .int .i64 0, .int .i64 0, .int .i64 0, .bool false, .slice none 0 0, .int .i64 y0, .int .i64 y1, .int .i64 y2, .slice A12 yl.length c12, .int .i64 0, .int .i64 0, .int .i64 0, .slice none 0 0] (0, 0) _ rfl HD.out.1 Tryz.underlying34 rfl (by kernel_rfl)) rfl ?_
 rw [HF.out]
 obtain ⟨_, hp, i, d, q⟩ := HD.out
 exact ⟨_, _, _, rfl, Kd.R_nil _ _ _ _ _, Kd.R_mono (Kd.S_R hp.2) (fun _ _ => trivial), Kd.R_nil _ _ _ _ _, i, d, q⟩
set_option maxHeartbeats 4000000 in
theorem eMsgL {w0 w : World} {x : Nat} {s : EyeS} (hI : IsEye w0 w x s) (hB : Below w0.heap.size w0 w) (hok : okS s) (hn : (eNum s).1 < 1) :
  Calls Tryz.prog 60 #[.pointer (some ⟨x, 0, none⟩)] w fun e w' => MsP (fun W s => IsEye w0 W x s) w0 w x (eMsg s).1 (eMsg s).2 e w' := by
 have HT1 := Lib.hid (Fo.start (I := fun W s => IsEye w0 W x s) (T := 34) (zs := #[.int .i64 0, .int .i64 0, .int .i64 0, .int .i64 0, .int .i64 0, .int .i64 0, .int .i64 0, .bool false, .slice none 0 0, .int .i64 0, .int .i64 0, .int .i64 0, .slice none 0 0, .int .i64 0, .int .i64 0, .int .i64 0, .slice none 0 0]) hI hB hI.lt hI.ge (fun _ _ _ e h => h.at e))
 obtain ⟨k, hk⟩ : ∃ k, (eNum s).1 = k := ⟨_, rfl⟩
 obtain ⟨s1, hs1⟩ : ∃ s1, (eNum s).2 = s1 := ⟨_, rfl⟩
 rw [hk] at hn
 have HF := Lib.hid (show eMsg s = (zM, eWrong true s1) by
  have hm : eMk s = eWrong true s1 := by
   unfold eMk notKind
   rw [hk, hs1]
   congr 1
   simp
   omega
  unfold eMsg
  rw [hm, if_pos (eWrong_true _)])
 have HN := Lib.hid (And.intro hk hs1)
 have HO0 := Lib.hid hok
 clear hI hB hok hk hs1
 have q1 : decide (k < 1) = true := decide_eq_true hn
 have HQ := Lib.hid (show ((eWrong true s1).e != 0) = true from bne_iff_ne.2 (eWrong_true _))
 clear hn
 go_enter Tryz.func60, Tryz.ntmps60
 go_upto_region 1 with fail
 obtain ⟨w1, hw1⟩ : ∃ w1, w.alloc (.cells #[.int .i64 0, .int .i64 0, .int .i64 0, .int .i64 0, .int .i64 0, .int .i64 0, .int .i64 0, .bool false, .slice none 0 0, .int .i64 0, .int .i64 0, .int .i64 0, .slice none 0 0, .int .i64 0, .int .i64 0, .int .i64 0, .slice none 0 0] 34) = w1 := ⟨_, rfl⟩
 rw [hw1] at HT1 ⊢
 clear hw1
 go_wp2_with fail
 have h4 := eNum_is HT1.out.i HT1.out.d HO0.out
 rw [HN.out.1, HN.out.2] at h4
 refine h4.mono ?_
 rintro e w2 ⟨rfl, h1, h2, h3⟩
 have HT2 := Lib.hid (HT1.out.call h1 h2 h3)
 clear h1 h2 h3 h4 HT1 HN
 go_wp2_with fail
 have h4 := eWrong_is HT2.out.i HT2.out.d true
 obtain ⟨s2, hs2⟩ : ∃ t, eWrong true s1 = t := ⟨_, rfl⟩
 rw [hs2] at h4 HF HQ
 clear hs2
 refine h4.mono ?_
 rintro e w3 ⟨rfl, h1, h2, h3⟩
 have HT3 := Lib.hid (HT2.out.call h1 h2 h3)
 clear h1 h2 h3 h4 HT2 q1
 have c1 : w3.cell? ⟨x, 1, none⟩ = some (.int .i64 s2.e) := by
  obtain ⟨A, c, g1, _⟩ := HT3.out.i
  simp [World.cell?, g1]
 have hq := HQ.out
 go_upto_region 4 with fail
 clear c1 hq
 refine wp_region_list ?_
 refine wpList_cut 1 ?_
 simp only [List.take_succ_cons, List.take_zero, List.drop_succ_cons, List.drop_zero]
 go_wp2_with fail
 refine Halt.mk ?_
 refine wpList_store_row rfl 34 (.tmp 2) (.tmp 20) rfl w.heap.size #[.int .i64 0, .int .i64 0, .int .i64 0, .int .i64 0, .int .i64 0, .int .i64 0, .int .i64 0, .bool false, .slice none 0 0, .int .i64 0, .int .i64 0, .int .i64 0, .slice none 0 0, .int .i64 0, .int .i64 0, .int .i64 0, .slice none 0 0] rfl rfl 34 #[.int .i64 0, .int .i64 0, .int .i64 0, .int .i64 0, .int .i64 0, .int .i64 0, .int .i64 0, .bool false, .slice none 0 0, .int .i64 0, .int .i64 0, .int .i64 0, .slice none 0 0, .int .i64 0, .int .i64 0, .int .i64 0, .slice none 0 0] HT3.out.g0 (by kernel_rfl) rfl (by simp [Value.oneCell']) ?_
 have HD := Lib.hid (HT3.out.fin (cs' := #[.int .i64 0, .int .i64 0, .int .i64 0, .int .i64 0, .int .i64 0, .int .i64 0, .int .i64 0, .bool false, .slice none 0 0, .int .i64 0, .int .i64 0, .int .i64 0, .slice none 0 0, .int .i64 0, .int .i64 0, .int .i64 0, .slice none 0 0]))
 obtain ⟨W, hW⟩ : ∃ W, w3.setRow w.heap.size #[.int .i64 0, .int .i64 0, .int .i64 0, .int .i64 0, .int .i64 0, .int .i64 0, .int .i64 0, .bool false, .slice none 0 0, .int .i64 0, .int .i64 0, .int .i64 0, .slice none 0 0, .int .i64 0, .int .i64 0, .int .i64 0, .slice none 0 0] = W := ⟨_, rfl⟩
 rw [hW] at HD ⊢
 clear hW
 go_wp2_with fail
 refine bodyPost_ret (results_cell_row rfl _ _ w.heap.size 34 #[.int .i64 0, .int .i64 0, .int .i64 0, .int .i64 0, .int .i64 0, .int .i64 0, .int .i64 0, .bool false, .slice none 0 0, .int .i64 0, .int .i64 0, .int .i64 0, .slice none 0 0, .int .i64 0, .int .i64 0, .int .i64 0, .slice none 0 0] (0, 0) _ rfl HD.out.1 Tryz.underlying34 rfl (by kernel_rfl)) rfl ?_
 rw [HF.out]
 obtain ⟨_, i, d, q⟩ := HD.out
 exact ⟨_, _, _, rfl, Kd.R_nil _ _ _ _ _, Kd.R_nil _ _ _ _ _, Kd.R_nil _ _ _ _ _, i, d, q⟩
set_option maxHeartbeats 4000000 in
theorem eMsgH {w0 w : World} {x : Nat} {s : EyeS} (hI : IsEye w0 w x s) (hB : Below w0.heap.size w0 w) (hok : okS s) (hn : 6 < (eNum s).1) :
  Calls Tryz.prog 60 #[.pointer (some ⟨x, 0, none⟩)] w fun e w' => MsP (fun W s => IsEye w0 W x s) w0 w x (eMsg s).1 (eMsg s).2 e w' := by
 have HT1 := Lib.hid (Fo.start (I := fun W s => IsEye w0 W x s) (T := 34) (zs := #[.int .i64 0, .int .i64 0, .int .i64 0, .int .i64 0, .int .i64 0, .int .i64 0, .int .i64 0, .bool false, .slice none 0 0, .int .i64 0, .int .i64 0, .int .i64 0, .slice none 0 0, .int .i64 0, .int .i64 0, .int .i64 0, .slice none 0 0]) hI hB hI.lt hI.ge (fun _ _ _ e h => h.at e))
 obtain ⟨k, hk⟩ : ∃ k, (eNum s).1 = k := ⟨_, rfl⟩
 obtain ⟨s1, hs1⟩ : ∃ s1, (eNum s).2 = s1 := ⟨_, rfl⟩
 rw [hk] at hn
 have HF := Lib.hid (show eMsg s = (zM, eWrong true s1) by
  have hm : eMk s = eWrong true s1 := by
   unfold eMk notKind
   rw [hk, hs1]
   congr 1
   simp
   omega
  unfold eMsg
  rw [hm, if_pos (eWrong_true _)])
 have HN := Lib.hid (And.intro hk hs1)
 have HO0 := Lib.hid hok
 clear hI hB hok hk hs1
 have q1 : decide (k < 1) = false := decide_eq_false (by omega)
 have q2 : decide ((6 : Int) < k) = true := decide_eq_true hn
 have HQ := Lib.hid (show ((eWrong true s1).e != 0) = true from bne_iff_ne.2 (eWrong_true _))
 clear hn
 go_enter Tryz.func60, Tryz.ntmps60
 go_upto_region 1 with fail
 obtain ⟨w1, hw1⟩ : ∃ w1, w.alloc (.cells #[.int .i64 0, .int .i64 0, .int .i64 0, .int .i64 0, .int .i64 0, .int .i64 0, .int .i64 0, .bool false, .slice none 0 0, .int .i64 0, .int .i64 0, .int .i64 0, .slice none 0 0, .int .i64 0, .int .i64 0, .int .i64 0, .slice none 0 0] 34) = w1 := ⟨_, rfl⟩
 rw [hw1] at HT1 ⊢
 clear hw1
 go_wp2_with fail
 have h4 := eNum_is HT1.out.i HT1.out.d HO0.out
 rw [HN.out.1, HN.out.2] at h4
 refine h4.mono ?_
 rintro e w2 ⟨rfl, h1, h2, h3⟩
 have HT2 := Lib.hid (HT1.out.call h1 h2 h3)
 clear h1 h2 h3 h4 HT1 HN
 go_wp2_with fail
 have h4 := eWrong_is HT2.out.i HT2.out.d true
 obtain ⟨s2, hs2⟩ : ∃ t, eWrong true s1 = t := ⟨_, rfl⟩
 rw [hs2] at h4 HF HQ
 clear hs2
 refine h4.mono ?_
 rintro e w3 ⟨rfl, h1, h2, h3⟩
 have HT3 := Lib.hid (HT2.out.call h1 h2 h3)
 clear h1 h2 h3 h4 HT2 q1 q2
 have c1 : w3.cell? ⟨x, 1, none⟩ = some (.int .i64 s2.e) := by
  obtain ⟨A, c, g1, _⟩ := HT3.out.i
  simp [World.cell?, g1]
 have hq := HQ.out
 go_upto_region 4 with fail
 clear c1 hq
 refine wp_region_list ?_
 refine wpList_cut 1 ?_
 simp only [List.take_succ_cons, List.take_zero, List.drop_succ_cons, List.drop_zero]
 go_wp2_with fail
 refine Halt.mk ?_
 refine wpList_store_row rfl 34 (.tmp 2) (.tmp 20) rfl w.heap.size #[.int .i64 0, .int .i64 0, .int .i64 0, .int .i64 0, .int .i64 0, .int .i64 0, .int .i64 0, .bool false, .slice none 0 0, .int .i64 0, .int .i64 0, .int .i64 0, .slice none 0 0, .int .i64 0, .int .i64 0, .int .i64 0, .slice none 0 0] rfl rfl 34 #[.int .i64 0, .int .i64 0, .int .i64 0, .int .i64 0, .int .i64 0, .int .i64 0, .int .i64 0, .bool false, .slice none 0 0, .int .i64 0, .int .i64 0, .int .i64 0, .slice none 0 0, .int .i64 0, .int .i64 0, .int .i64 0, .slice none 0 0] HT3.out.g0 (by kernel_rfl) rfl (by simp [Value.oneCell']) ?_
 have HD := Lib.hid (HT3.out.fin (cs' := #[.int .i64 0, .int .i64 0, .int .i64 0, .int .i64 0, .int .i64 0, .int .i64 0, .int .i64 0, .bool false, .slice none 0 0, .int .i64 0, .int .i64 0, .int .i64 0, .slice none 0 0, .int .i64 0, .int .i64 0, .int .i64 0, .slice none 0 0]))
 obtain ⟨W, hW⟩ : ∃ W, w3.setRow w.heap.size #[.int .i64 0, .int .i64 0, .int .i64 0, .int .i64 0, .int .i64 0, .int .i64 0, .int .i64 0, .bool false, .slice none 0 0, .int .i64 0, .int .i64 0, .int .i64 0, .slice none 0 0, .int .i64 0, .int .i64 0, .int .i64 0, .slice none 0 0] = W := ⟨_, rfl⟩
 rw [hW] at HD ⊢
 clear hW
 go_wp2_with fail
 refine bodyPost_ret (results_cell_row rfl _ _ w.heap.size 34 #[.int .i64 0, .int .i64 0, .int .i64 0, .int .i64 0, .int .i64 0, .int .i64 0, .int .i64 0, .bool false, .slice none 0 0, .int .i64 0, .int .i64 0, .int .i64 0, .slice none 0 0, .int .i64 0, .int .i64 0, .int .i64 0, .slice none 0 0] (0, 0) _ rfl HD.out.1 Tryz.underlying34 rfl (by kernel_rfl)) rfl ?_
 rw [HF.out]
 obtain ⟨_, i, d, q⟩ := HD.out
 exact ⟨_, _, _, rfl, Kd.R_nil _ _ _ _ _, Kd.R_nil _ _ _ _ _, Kd.R_nil _ _ _ _ _, i, d, q⟩
theorem eMsg_is {w0 w : World} {x : Nat} {s : EyeS} (hI : IsEye w0 w x s) (hB : Below w0.heap.size w0 w) (hok : okS s) :
  Calls Tryz.prog 60 #[.pointer (some ⟨x, 0, none⟩)] w fun e w' => MsP (fun W s => IsEye w0 W x s) w0 w x (eMsg s).1 (eMsg s).2 e w' := by
 by_cases h0 : (eNum s).1 < 1
 ·exact eMsgL hI hB hok h0
 by_cases h7 : 6 < (eNum s).1
 ·exact eMsgH hI hB hok h7
 have he : (eNum s).2.e = 0 := by
  by_cases he : (eNum s).2.e = 0
  ·exact he
  ·have := eNum_z he; omega
 by_cases h1 : (eNum s).1 = 1
 ·exact eMsg1 hI hB hok h1 he
 by_cases h2 : (eNum s).1 = 2
 ·exact eMsg2 hI hB hok h2 he
 by_cases h3 : (eNum s).1 = 3
 ·exact eMsg3 hI hB hok h3 he
 by_cases h4 : (eNum s).1 = 4
 ·exact eMsg4 hI hB hok h4 he
 by_cases h5 : (eNum s).1 = 5
 ·exact eMsg5 hI hB hok h5 he
 exact eMsg6 hI hB hok (by omega) he
end Go.Proofs.YtgiefblcckikeaaGreat.M
end

section
/- What is read is within its kinds: numbers are int64, bytes are bytes. -/
set_option maxRecDepth 100000
namespace Go.Proofs.YtgiefblcckikeaaGreat.M
open Go.RowKit Go.Proofs.YtgiefblcckikeaaGreatW.PrintWords Go.Proofs.YtgiefblcckikeaaGreatW.PrintMore Go.Proofs.YtgiefblcckikeaaGreat.G
theorem num_i64 {s : EyeS} (h : okS s) : isI64 (eNum s).1 := by
 unfold eNum
 split
 ·show isI64 (takeNum s.l).1
  unfold takeNum
  split
  ·next he => exact (form_one h.1 he).2
  ·exact (by decide : isI64 0)
 ·exact (by decide : isI64 0)
theorem small_i64 {s : EyeS} (h : okS s) : isI64 (eSmall s).1 := by
 rw [eSmall_range]
 split
 ·exact num_i64 h
 ·exact (by decide : isI64 0)
theorem data_ok {s : EyeS} (h : okS s) : okB (eData s).1 = true := by
 unfold eData
 split
 ·show okB (takeBlob s.l).1 = true
  unfold takeBlob
  split
  ·unfold blD; exact okB_drop (okB_take h.1 _) _
  ·rfl
 ·rfl
theorem many_ok {α : Type} {g : EyeS → α × EyeS} {P : α → Prop} (hg : ∀ s, okS s → okS (g s).2 ∧ P (g s).1) : ∀ (n : Nat) (s : EyeS), okS s → ∀ x ∈ (eMany g n s).1, P x
 | 0, s, _ => fun x hx => by cases hx
 | n + 1, s, h => by
  intro x hx
  by_cases he : s.e = 0
  ·simp only [eMany, if_pos he] at hx
   rcases List.mem_cons.1 hx with rfl | hx
   ·exact (hg s h).2
   ·exact many_ok hg n _ (hg s h).1 x hx
  ·rw [eMany_stop he] at hx
   cases hx
theorem list_ok {α : Type} {g : EyeS → α × EyeS} {P : α → Prop} (hg : ∀ s, okS s → okS (g s).2 ∧ P (g s).1) {s : EyeS} (h : okS s) : ∀ x ∈ (eList g s).1, P x :=
 many_ok hg _ _ (okS_wrong _ (okS_num h))
theorem key_ok {s : EyeS} (h : okS s) : okK (eKey s).1 = true := by
 have h1 := eSmall_range s
 have h2 := num_i64 (okS_small h)
 have h0 : -2147483648 ≤ (eSmall s).1 ∧ (eSmall s).1 ≤ 2147483647 := by
  rw [h1]
  split
  ·next q => exact q
  ·exact (by decide : -2147483648 ≤ (0 : Int) ∧ (0 : Int) ≤ 2147483647)
 unfold okK
 exact decide_eq_true ⟨h0.1, h0.2, h2⟩
theorem txn_ok {s : EyeS} (h : okS s) : okT (eTxn s).1 = true := by
 have o1 := okS_num h
 have o2 := okS_num o1
 have o3 := okS_data o2
 have o4 := okS_list (fun _ => okS_num) o3
 have o5 := okS_list (fun _ => okS_key) o4
 unfold okT
 rw [decide_eq_true (show isI64 (eTxn s).1.f0 from num_i64 h), decide_eq_true (show isI64 (eTxn s).1.f1 from num_i64 o1), show okB (eTxn s).1.f2 = true from data_ok o2]
 have a : okI (eTxn s).1.f3 = true := List.all_eq_true.2 (fun x hx => decide_eq_true (list_ok (P := isI64) (fun s h => ⟨okS_num h, num_i64 h⟩) o3 x hx))
 have b : (eTxn s).1.f4.all okK = true := List.all_eq_true.2 (fun x hx => list_ok (P := fun k => okK k = true) (fun s h => ⟨okS_key h, key_ok h⟩) o4 x hx)
 have c : (eTxn s).1.f5.all okK = true := List.all_eq_true.2 (fun x hx => list_ok (P := fun k => okK k = true) (fun s h => ⟨okS_key h, key_ok h⟩) o5 x hx)
 rw [a, b, c]
 rfl
def okEn (x : EnD) : Prop := okE x.1 x.2.1 x.2.2.1 x.2.2.2 = true
theorem okE_mk {k f n : Int} {l : List TxD} (h0 : isI64 k) (h1 : isI64 f) (h2 : isI64 n) (h3 : ∀ t ∈ l, okT t = true) : okE k f n l = true := by
 unfold okE
 rw [decide_eq_true h0, decide_eq_true h1, decide_eq_true h2, List.all_eq_true.2 h3]
 rfl
theorem entry_ok {s : EyeS} (h : okS s) : okEn (eEntry s).1 := by
 unfold eEntry
 split
 ·exact okE_mk (k := 0) (f := 0) (n := 0) (l := []) (by decide) (by decide) (by decide) (fun t ht => by cases ht)
 ·have o := okS_kind h
  exact okE_mk (k := 1) (by decide) (small_i64 o) (num_i64 (okS_small o)) (list_ok (P := fun t => okT t = true) (fun s h => ⟨okS_txn h, txn_ok h⟩) (okS_num (okS_small o)))
def okTr (x : TrD) : Prop := isI64 x.f0 ∧ okE x.f1.f0 x.f1.f1 x.f1.f2 x.f1.f3 = true
theorem tr_ok {s : EyeS} (h : okS s) : okTr (eTr s).1 := ⟨num_i64 h, entry_ok (okS_num h)⟩
theorem okI3 {a b c : Int} (h0 : isI64 a) (h1 : isI64 b) (h2 : isI64 c) : okI [a, b, c] = true := okI_cons.2 ⟨h0, okI_cons.2 ⟨h1, okI_cons.2 ⟨h2, rfl⟩⟩⟩
theorem okI4 {a b c d : Int} (h0 : isI64 a) (h1 : isI64 b) (h2 : isI64 c) (h3 : isI64 d) : okI [a, b, c, d] = true := okI_cons.2 ⟨h0, okI3 h1 h2 h3⟩
theorem i64_0 : isI64 0 := by decide
theorem zE_ok : okE zE.f0 zE.f1 zE.f2 zE.f3 = true := by decide
theorem okM_zero : OkM zM := ⟨by decide, by decide, by decide, by decide, fun x hx => by cases hx⟩
theorem okM_body (k : Int) (hk : isI64 k) {s : EyeS} (h : okS s) : OkM (mBody eSmall eEntry (eList eTr) k s).1 ∧ isI64 (mBody eSmall eEntry (eList eTr) k s).1.f10.f2 ∧ okB (mBody eSmall eEntry (eList eTr) k s).1.f10.f3 = true := by
 have o1 := okS_small h
 have o2 := okS_small o1
 have a1 := small_i64 h
 have a2 := small_i64 o1
 have a3 := num_i64 o2
 have o3 := okS_num o2
 have a4 := num_i64 o3
 have o4 := okS_num o3
 have a5 := num_i64 o4
 have o5 := okS_num o4
 have a6 := num_i64 o5
 have o6 := okS_num o5
 unfold mBody
 split
 ·exact ⟨⟨okI3 (a := 1) (by decide) a1 a2, okI4 a3 a4 a5 i64_0, okI3 i64_0 i64_0 i64_0, zE_ok, fun x hx => by cases hx⟩, i64_0, rfl⟩
 split
 ·exact ⟨⟨okI3 (a := 2) (by decide) a1 a2, okI4 a3 i64_0 i64_0 i64_0, okI3 i64_0 i64_0 i64_0, zE_ok, fun x hx => by cases hx⟩, i64_0, rfl⟩
 split
 ·exact ⟨⟨okI3 (a := 3) (by decide) a1 a2, okI4 a3 a4 a5 a6, okI3 i64_0 i64_0 i64_0, zE_ok, list_ok (P := okTr) (fun s h => ⟨okS_tr h, tr_ok h⟩) o6⟩, i64_0, rfl⟩
 split
 ·exact ⟨⟨okI3 (a := 4) (by decide) a1 a2, okI4 a3 (num_i64 (okS_yes o3)) i64_0 i64_0, okI3 i64_0 i64_0 i64_0, zE_ok, fun x hx => by cases hx⟩, i64_0, rfl⟩
 split
 ·have o7 := okS_small o6
  exact ⟨⟨okI3 (a := 5) (by decide) a1 a2, okI4 a3 a4 a5 i64_0, okI3 a6 (small_i64 o6) (small_i64 o7), zE_ok, fun x hx => by cases hx⟩, small_i64 o7, data_ok (okS_small o7)⟩
 split
 ·exact ⟨⟨okI3 (a := 6) (by decide) a1 a2, okI4 i64_0 i64_0 i64_0 i64_0, okI3 i64_0 i64_0 i64_0, entry_ok o2, fun x hx => by cases hx⟩, i64_0, rfl⟩
 ·exact ⟨⟨okI3 hk a1 a2, okI4 a3 i64_0 i64_0 i64_0, okI3 i64_0 i64_0 i64_0, zE_ok, fun x hx => by cases hx⟩, i64_0, rfl⟩
theorem okM_eMsg {s : EyeS} (h : okS s) : OkM (eMsg s).1 ∧ isI64 (eMsg s).1.f10.f2 ∧ okB (eMsg s).1.f10.f3 = true := by
 unfold eMsg
 split
 ·exact ⟨okM_zero, i64_0, rfl⟩
 ·exact okM_body _ (num_i64 h) (okS_wrong _ (okS_num h))
end Go.Proofs.YtgiefblcckikeaaGreat.M
end
