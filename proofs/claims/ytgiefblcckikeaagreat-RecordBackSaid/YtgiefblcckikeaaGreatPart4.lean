/- RecordBackSaid: contracts of the functions that the law goes through, put together in build order (part 5 of 7). -/
import Derived.Test.YtgiefblcckikeaaGreatPart3
import Derived.Deep.RegionHeld3
import Derived.Laws.Tables
set_option linter.unusedVariables false
set_option linter.unusedSimpArgs false
set_option maxRecDepth 100000
section
/- Which messages may be: record.msg (printed by genmsg04.py). -/
attribute [local irreducible] Go.wpStill
namespace Go.Proofs.YtgiefblcckikeaaGreat.M
open Go.RowKit Go.Proofs.YtgiefblcckikeaaGreatW.PrintWords Go.Proofs.YtgiefblcckikeaaGreatW.PrintLast Go.Proofs.YtgiefblcckikeaaGreatW.PrintMore Go.Proofs.YtgiefblcckikeaaGreat.G
def mayMs (m : MsgD) : Bool := inB 0 4 [m.f1] && (inB 0 4 [m.f2] && (inB 0 1099511627776 [m.f3, m.f4, m.f5, m.f6] && (isKind m.f0 && (eqMs (bareM m) m && (decide ((m.f8.length : Int) ≤ 4096) && (m.f8.all mayTr && ((!(m.f0 == 5) || mayPt m.f10) && (!(m.f0 == 6) || mayE m.f9.f0 m.f9.f1 m.f9.f2 m.f9.f3))))))))
set_option maxHeartbeats 8000000 in
theorem msg_is {w : World} (m : MsgD) {A8 A12 A16 : Option Addr} {c8 c12 c16 : Nat} (hm : MsgC w m A8 c8 A12 c12 A16 c16) (hp : isI64 m.f10.f2) :
  Calls Tryz.prog 45 #[.agg #[.int .i64 m.f0, .int .i64 m.f1, .int .i64 m.f2, .int .i64 m.f3, .int .i64 m.f4, .int .i64 m.f5, .int .i64 m.f6, .bool m.f7, .slice A8 m.f8.length c8, .int .i64 m.f9.f0, .int .i64 m.f9.f1, .int .i64 m.f9.f2, .slice A12 m.f9.f3.length c12, .int .i64 m.f10.f0, .int .i64 m.f10.f1, .int .i64 m.f10.f2, .slice A16 m.f10.f3.length c16]] w fun e w' => e = .returned (.bool (mayMs m)) ∧ Below w.heap.size w w' := by
 have hb := (Below.refl _ w).alloc (Nat.le_refl _) (.cells #[.int .i64 m.f0, .int .i64 m.f1, .int .i64 m.f2, .int .i64 m.f3, .int .i64 m.f4, .int .i64 m.f5, .int .i64 m.f6, .bool m.f7, .slice A8 m.f8.length c8, .int .i64 m.f9.f0, .int .i64 m.f9.f1, .int .i64 m.f9.f2, .slice A12 m.f9.f3.length c12, .int .i64 m.f10.f0, .int .i64 m.f10.f1, .int .i64 m.f10.f2, .slice A16 m.f10.f3.length c16] 34)
 have HB0 := Lib.hid hb; have HX0 := Lib.hid (show MsBox (w.alloc (.cells #[.int .i64 m.f0, .int .i64 m.f1, .int .i64 m.f2, .int .i64 m.f3, .int .i64 m.f4, .int .i64 m.f5, .int .i64 m.f6, .bool m.f7, .slice A8 m.f8.length c8, .int .i64 m.f9.f0, .int .i64 m.f9.f1, .int .i64 m.f9.f2, .slice A12 m.f9.f3.length c12, .int .i64 m.f10.f0, .int .i64 m.f10.f1, .int .i64 m.f10.f2, .slice A16 m.f10.f3.length c16] 34)) w.heap.size m A8 c8 A12 c12 A16 c16 from heap_alloc_new w _); have HM0 := Lib.hid (hm.below hb); have HPI := Lib.hid hp
 have hlm : m.f8.length ≤ 9223372036854775807 := Kd.C_max hm.g8
 obtain ⟨q, hq⟩ : ∃ q, mayMs m = q := ⟨_, rfl⟩
 have HQ := Lib.hid hq
 rw [hq]
 clear hq hm hp hb
 go_enter Tryz.func45, Tryz.ntmps45
 go_upto_region 1 with fail
 obtain ⟨v0, hw⟩ : ∃ v, w.alloc (.cells #[.int .i64 m.f0, .int .i64 m.f1, .int .i64 m.f2, .int .i64 m.f3, .int .i64 m.f4, .int .i64 m.f5, .int .i64 m.f6, .bool m.f7, .slice A8 m.f8.length c8, .int .i64 m.f9.f0, .int .i64 m.f9.f1, .int .i64 m.f9.f2, .slice A12 m.f9.f3.length c12, .int .i64 m.f10.f0, .int .i64 m.f10.f1, .int .i64 m.f10.f2, .slice A16 m.f10.f3.length c16] 34) = v := ⟨_, rfl⟩
 obtain ⟨g, hg⟩ : ∃ g, w.heap.size = g := ⟨_, rfl⟩
 have HG := Lib.hid hg
 rw [hw] at HB0 HX0 HM0 ⊢
 rw [hg] at HX0 ⊢
 clear hw hg
 obtain ⟨b0, hb0⟩ : ∃ b, inB 0 4 [m.f1] = b := ⟨_, rfl⟩
 obtain ⟨b1, hb1⟩ : ∃ b, inB 0 4 [m.f2] = b := ⟨_, rfl⟩
 obtain ⟨b2, hb2⟩ : ∃ b, inB 0 1099511627776 [m.f3, m.f4, m.f5, m.f6] = b := ⟨_, rfl⟩
 obtain ⟨b3, hb3⟩ : ∃ b, isKind m.f0 = b := ⟨_, rfl⟩
 obtain ⟨b4, hb4⟩ : ∃ b, eqMs (bareM m) m = b := ⟨_, rfl⟩
 obtain ⟨b5, hb5⟩ : ∃ b : Bool, decide (4096 < (m.f8.length : Int)) = b := ⟨_, rfl⟩
 obtain ⟨b6, hb6⟩ : ∃ b, m.f8.all mayTr = b := ⟨_, rfl⟩
 obtain ⟨b7, hb7⟩ : ∃ b, mayPt m.f10 = b := ⟨_, rfl⟩
 obtain ⟨b8, hb8⟩ : ∃ b, mayE m.f9.f0 m.f9.f1 m.f9.f2 m.f9.f3 = b := ⟨_, rfl⟩
 obtain ⟨k5, hk5⟩ : ∃ b : Bool, (m.f0 != 5) = b := ⟨_, rfl⟩
 obtain ⟨k6, hk6⟩ : ∃ b : Bool, (m.f0 != 6) = b := ⟨_, rfl⟩
 have HV := Lib.hid (show q = (b0 && (b1 && (b2 && (b3 && (b4 && (!b5 && (b6 && ((k5 || b7) && (k6 || b8)))))))))  by
  rw [← HQ.out, ← hb0, ← hb1, ← hb2, ← hb3, ← hb4, ← hb5, ← hb6, ← hb7, ← hb8, ← hk5, ← hk6]
  unfold mayMs
  have e1 : decide ((m.f8.length : Int) ≤ 4096) = !decide (4096 < (m.f8.length : Int)) := by
   by_cases h : (m.f8.length : Int) ≤ 4096
   ·rw [decide_eq_true h, decide_eq_false (by omega)]; rfl
   ·rw [decide_eq_false h, decide_eq_true (by omega)]; rfl
  rw [e1]
  rfl)
 have H0 := Lib.hid hb0; have H1 := Lib.hid hb1; have H2 := Lib.hid hb2; have H3 := Lib.hid hb3; have H4 := Lib.hid hb4; have H6 := Lib.hid hb6; have H7 := Lib.hid hb7; have H8 := Lib.hid hb8
 clear hb0 hb1 hb2 hb3 hb4 hb6 hb7 hb8
 obtain ⟨a0, a1, a2, a3, a4, a5, a6, a7, a8, a9, a10, a11, a12, a13, a14, a15, a16⟩ := HX0.out.cell
 go_wp2_with fail
 have h4 := G.record_who.calls m.f1 (inB 0 4 [m.f1]) v0 rfl
 rw [H0.out] at h4
 refine h4.mono ?_
 rintro e v1 ⟨rfl, hb⟩
 have HB1 := Lib.hid (HB0.out.trans (hb.mono HB0.out.size)); have HX1 := Lib.hid (HX0.out.below hb); have HM1 := Lib.hid (HM0.out.below hb)
 clear h4 hb HB0 HX0 HM0 a0 a1 a2 a3 a4 a5 a6 a7 a8 a9 a10 a11 a12 a13 a14 a15 a16
 obtain ⟨a0, a1, a2, a3, a4, a5, a6, a7, a8, a9, a10, a11, a12, a13, a14, a15, a16⟩ := HX1.out.cell
 cases b0 with
 | false =>
  have HW := Lib.hid (show q = false by rw [HV.out]; simp)
  go_wp2_with fail
  go_ret
  exact ⟨by rw [HW.out]; rfl, HB1.out⟩
 | true =>
  go_wp2_with fail
  have h4 := G.record_who.calls m.f2 (inB 0 4 [m.f2]) v1 rfl
  rw [H1.out] at h4
  refine h4.mono ?_
  rintro e v2 ⟨rfl, hb⟩
  have HB2 := Lib.hid (HB1.out.trans (hb.mono HB1.out.size)); have HX2 := Lib.hid (HX1.out.below hb); have HM2 := Lib.hid (HM1.out.below hb)
  clear h4 hb HB1 HX1 HM1 a0 a1 a2 a3 a4 a5 a6 a7 a8 a9 a10 a11 a12 a13 a14 a15 a16
  obtain ⟨a0, a1, a2, a3, a4, a5, a6, a7, a8, a9, a10, a11, a12, a13, a14, a15, a16⟩ := HX2.out.cell
  cases b1 with
  | false =>
   have HW := Lib.hid (show q = false by rw [HV.out]; simp)
   go_wp2_with fail
   go_ret
   exact ⟨by rw [HW.out]; rfl, HB2.out⟩
  | true =>
   obtain ⟨h1, h2⟩ := lit_new v2 [m.f3, m.f4, m.f5, m.f6] (by simp)
   simp only [List.map_cons, List.map_nil, List.length_cons, List.length_nil, Nat.zero_add, Nat.reduceAdd] at h1 h2
   have HLa := Lib.hid h2; have HBa := Lib.hid (HB2.out.trans (h1.mono HB2.out.size)); have HXa := Lib.hid (HX2.out.below h1); have HMa := Lib.hid (HM2.out.below h1)
   clear h1 h2
   go_wp2_with fail
   have h4 := G.record_count.calls (some ⟨v2.heap.size, 0, none⟩) 4 [m.f3, m.f4, m.f5, m.f6] b2 _ HLa.out (Nat.le_refl _) (by unfold G.record_count.f G.record_between.f; rw [H2.out]; rfl)
   refine h4.mono ?_
   rintro e v3 ⟨rfl, hb⟩
   have HB3 := Lib.hid (HBa.out.trans (hb.mono HBa.out.size)); have HX3 := Lib.hid (HXa.out.below hb); have HM3 := Lib.hid (HMa.out.below hb)
   clear h4 hb HB2 HX2 HM2 HBa HXa HMa HLa a0 a1 a2 a3 a4 a5 a6 a7 a8 a9 a10 a11 a12 a13 a14 a15 a16
   obtain ⟨a0, a1, a2, a3, a4, a5, a6, a7, a8, a9, a10, a11, a12, a13, a14, a15, a16⟩ := HX3.out.cell
   cases b2 with
   | false =>
    have HW := Lib.hid (show q = false by rw [HV.out]; simp)
    go_wp2_with fail
    go_ret
    exact ⟨by rw [HW.out]; rfl, HB3.out⟩
   | true =>
    go_wp2_with fail
    have h4 := bare_is m HM3.out
    refine h4.mono ?_
    rintro e v4 ⟨y, B8, B12, B16, d8, d12, d16, rfl, hy, hyc, hb⟩
    rw [H3.out] at hy ⊢
    have HB4 := Lib.hid (HB3.out.trans (hb.mono HB3.out.size)); have HX4 := Lib.hid (HX3.out.below hb); have HM4 := Lib.hid (HM3.out.below hb); have HY := Lib.hid hy; have HYC := Lib.hid hyc
    clear h4 hb HB3 HX3 HM3 hy hyc a0 a1 a2 a3 a4 a5 a6 a7 a8 a9 a10 a11 a12 a13 a14 a15 a16
    obtain ⟨a0, a1, a2, a3, a4, a5, a6, a7, a8, a9, a10, a11, a12, a13, a14, a15, a16⟩ := HX4.out.cell
    go_upto_region 4 with fail
    have hbx := heap_alloc_new v4 (.cells #[.int .i64 y.f0, .int .i64 y.f1, .int .i64 y.f2, .int .i64 y.f3, .int .i64 y.f4, .int .i64 y.f5, .int .i64 y.f6, .bool y.f7, .slice B8 y.f8.length d8, .int .i64 y.f9.f0, .int .i64 y.f9.f1, .int .i64 y.f9.f2, .slice B12 y.f9.f3.length d12, .int .i64 y.f10.f0, .int .i64 y.f10.f1, .int .i64 y.f10.f2, .slice B16 y.f10.f3.length d16] 34)
    have hay := (Below.refl _ v4).alloc (Nat.le_refl _) (.cells #[.int .i64 y.f0, .int .i64 y.f1, .int .i64 y.f2, .int .i64 y.f3, .int .i64 y.f4, .int .i64 y.f5, .int .i64 y.f6, .bool y.f7, .slice B8 y.f8.length d8, .int .i64 y.f9.f0, .int .i64 y.f9.f1, .int .i64 y.f9.f2, .slice B12 y.f9.f3.length d12, .int .i64 y.f10.f0, .int .i64 y.f10.f1, .int .i64 y.f10.f2, .slice B16 y.f10.f3.length d16] 34)
    obtain ⟨v5, hw⟩ : ∃ v, v4.alloc (.cells #[.int .i64 y.f0, .int .i64 y.f1, .int .i64 y.f2, .int .i64 y.f3, .int .i64 y.f4, .int .i64 y.f5, .int .i64 y.f6, .bool y.f7, .slice B8 y.f8.length d8, .int .i64 y.f9.f0, .int .i64 y.f9.f1, .int .i64 y.f9.f2, .slice B12 y.f9.f3.length d12, .int .i64 y.f10.f0, .int .i64 y.f10.f1, .int .i64 y.f10.f2, .slice B16 y.f10.f3.length d16] 34) = v := ⟨_, rfl⟩
    rw [hw] at hbx hay ⊢
    clear hw
    have HB5 := Lib.hid (HB4.out.trans (hay.mono HB4.out.size)); have HX5 := Lib.hid (HX4.out.below hay); have HM5 := Lib.hid (HM4.out.below hay); have HYD := Lib.hid (HYC.out.below hay)
    obtain ⟨gy, hgy⟩ : ∃ gy, v4.heap.size = gy := ⟨_, rfl⟩
    rw [hgy] at hbx ⊢
    have HYX := Lib.hid (show MsBox v5 gy y B8 d8 B12 d12 B16 d16 from hbx)
    clear hbx hay hgy HB4 HX4 HM4 HYC a0 a1 a2 a3 a4 a5 a6 a7 a8 a9 a10 a11 a12 a13 a14 a15 a16
    obtain ⟨a0, a1, a2, a3, a4, a5, a6, a7, a8, a9, a10, a11, a12, a13, a14, a15, a16⟩ := HX5.out.cell
    cases b3 with
    | false =>
     have HW := Lib.hid (show q = false by rw [HV.out]; simp)
     go_wp2_with fail
     go_ret
     exact ⟨by rw [HW.out]; rfl, HB5.out⟩
    | true =>
     have HYE := Lib.hid (HY.out rfl)
     refine wp_region_list ?_
     refine wpList_cut 3 ?_
     simp only [List.take_succ_cons, List.take_zero, List.drop_succ_cons, List.drop_zero]
     go_wp2_with fail
     refine Halt.mk ?_
     refine gate_guard (by rfl) ?_
     dsimp only
     refine wpList_load_row rfl 34 (.tmp 3) rfl gy rfl 34 #[.int .i64 y.f0, .int .i64 y.f1, .int .i64 y.f2, .int .i64 y.f3, .int .i64 y.f4, .int .i64 y.f5, .int .i64 y.f6, .bool y.f7, .slice B8 y.f8.length d8, .int .i64 y.f9.f0, .int .i64 y.f9.f1, .int .i64 y.f9.f2, .slice B12 y.f9.f3.length d12, .int .i64 y.f10.f0, .int .i64 y.f10.f1, .int .i64 y.f10.f2, .slice B16 y.f10.f3.length d16] (0, 0) _ HYX.out Tryz.underlying34 rfl (by kernel_rfl) ?_
     refine gate_guard (by rfl) ?_
     dsimp only
     refine wpList_load_row rfl 34 (.tmp 1) rfl g rfl 34 #[.int .i64 m.f0, .int .i64 m.f1, .int .i64 m.f2, .int .i64 m.f3, .int .i64 m.f4, .int .i64 m.f5, .int .i64 m.f6, .bool m.f7, .slice A8 m.f8.length c8, .int .i64 m.f9.f0, .int .i64 m.f9.f1, .int .i64 m.f9.f2, .slice A12 m.f9.f3.length c12, .int .i64 m.f10.f0, .int .i64 m.f10.f1, .int .i64 m.f10.f2, .slice A16 m.f10.f3.length c16] (0, 0) _ HX5.out Tryz.underlying34 rfl (by kernel_rfl) ?_
     go_wp2_with fail
     have H4' := Lib.hid (show eqMs y m = b4 by rw [HYE.out]; exact H4.out)
     clear HYE HY
     have h4 := sameMs_is y m HYD.out HM5.out
     rw [H4'.out] at h4
     refine h4.mono ?_
     rintro e v6 ⟨rfl, hb⟩
     have HB6 := Lib.hid (HB5.out.trans (hb.mono HB5.out.size)); have HX6 := Lib.hid (HX5.out.below hb); have HM6 := Lib.hid (HM5.out.below hb)
     clear h4 hb HB5 HX5 HM5 a0 a1 a2 a3 a4 a5 a6 a7 a8 a9 a10 a11 a12 a13 a14 a15 a16
     obtain ⟨a0, a1, a2, a3, a4, a5, a6, a7, a8, a9, a10, a11, a12, a13, a14, a15, a16⟩ := HX6.out.cell
     cases b4 with
     | false =>
      have HW := Lib.hid (show q = false by rw [HV.out]; simp)
      go_wp2_with fail
      go_ret
      exact ⟨by rw [HW.out]; rfl, HB6.out⟩
     | true =>
      cases b5 with
      | true =>
       have HW := Lib.hid (show q = false by rw [HV.out]; simp)
       go_wp2_with fail
       go_ret
       exact ⟨by rw [HW.out]; rfl, HB6.out⟩
      | false =>
       go_wp2_with fail
       have h4 := tr_has A8 c8 m.f8 v6 HM6.out.g8
       rw [H6.out] at h4
       refine h4.mono ?_
       rintro e v7 ⟨rfl, hb⟩
       have HB7 := Lib.hid (HB6.out.trans (hb.mono HB6.out.size)); have HX7 := Lib.hid (HX6.out.below hb); have HM7 := Lib.hid (HM6.out.below hb)
       clear h4 hb HB6 HX6 HM6 a0 a1 a2 a3 a4 a5 a6 a7 a8 a9 a10 a11 a12 a13 a14 a15 a16
       obtain ⟨a0, a1, a2, a3, a4, a5, a6, a7, a8, a9, a10, a11, a12, a13, a14, a15, a16⟩ := HX7.out.cell
       cases b6 with
       | false =>
        have HW := Lib.hid (show q = false by rw [HV.out]; simp)
        go_wp2_with fail
        go_ret
        exact ⟨by rw [HW.out]; rfl, HB7.out⟩
       | true =>
        cases k5 with
        | true =>
         cases k6 with
         | true =>
          have HW := Lib.hid (show q = true by rw [HV.out]; simp)
          go_wp2_with fail
          go_ret
          exact ⟨by rw [HW.out]; rfl, HB7.out⟩
         | false =>
          go_wp2_with fail
          have h4 := mayEn_is m.f9.f0 m.f9.f1 m.f9.f2 A12 c12 m.f9.f3 v7 HM7.out.g12
          rw [H8.out] at h4
          refine h4.mono ?_
          rintro e v8 ⟨rfl, hb⟩
          have HB8 := Lib.hid (HB7.out.trans (hb.mono HB7.out.size)); have HX8 := Lib.hid (HX7.out.below hb); have HM8 := Lib.hid (HM7.out.below hb)
          clear h4 hb HB7 HX7 HM7 a0 a1 a2 a3 a4 a5 a6 a7 a8 a9 a10 a11 a12 a13 a14 a15 a16
          obtain ⟨a0, a1, a2, a3, a4, a5, a6, a7, a8, a9, a10, a11, a12, a13, a14, a15, a16⟩ := HX8.out.cell
          have HW := Lib.hid (show q = b8 by rw [HV.out]; simp)
          go_wp2_with fail
          go_ret
          exact ⟨by rw [HW.out]; rfl, HB8.out⟩
        | false =>
         go_wp2_with fail
         have h4 := part_is (c := c16) m.f10 HPI.out HM7.out.g16
         rw [H7.out] at h4
         refine h4.mono ?_
         rintro e v8 ⟨rfl, hb⟩
         have HB8 := Lib.hid (HB7.out.trans (hb.mono HB7.out.size)); have HX8 := Lib.hid (HX7.out.below hb); have HM8 := Lib.hid (HM7.out.below hb)
         clear h4 hb HB7 HX7 HM7 a0 a1 a2 a3 a4 a5 a6 a7 a8 a9 a10 a11 a12 a13 a14 a15 a16
         obtain ⟨a0, a1, a2, a3, a4, a5, a6, a7, a8, a9, a10, a11, a12, a13, a14, a15, a16⟩ := HX8.out.cell
         cases b7 with
         | false =>
          have HW := Lib.hid (show q = false by rw [HV.out]; simp)
          go_wp2_with fail
          go_ret
          exact ⟨by rw [HW.out]; rfl, HB8.out⟩
         | true =>
          cases k6 with
          | true =>
           have HW := Lib.hid (show q = true by rw [HV.out]; simp)
           go_wp2_with fail
           go_ret
           exact ⟨by rw [HW.out]; rfl, HB8.out⟩
          | false =>
           go_wp2_with fail
           have h4 := mayEn_is m.f9.f0 m.f9.f1 m.f9.f2 A12 c12 m.f9.f3 v8 HM8.out.g12
           rw [H8.out] at h4
           refine h4.mono ?_
           rintro e v9 ⟨rfl, hb⟩
           have HB9 := Lib.hid (HB8.out.trans (hb.mono HB8.out.size)); have HX9 := Lib.hid (HX8.out.below hb); have HM9 := Lib.hid (HM8.out.below hb)
           clear h4 hb HB8 HX8 HM8 a0 a1 a2 a3 a4 a5 a6 a7 a8 a9 a10 a11 a12 a13 a14 a15 a16
           obtain ⟨a0, a1, a2, a3, a4, a5, a6, a7, a8, a9, a10, a11, a12, a13, a14, a15, a16⟩ := HX9.out.cell
           have HW := Lib.hid (show q = b8 by rw [HV.out]; simp)
           go_wp2_with fail
           go_ret
           exact ⟨by rw [HW.out]; rfl, HB9.out⟩
end Go.Proofs.YtgiefblcckikeaaGreat.M
end

section
/- Contract of trivet/trivetref01.TakeNum. -/
namespace Go.Proofs.YtgiefblcckikeaaGreat.M
open Go.RowKit Go.Proofs.YtgiefblcckikeaaGreatW.PrintWords
theorem takeNum_bad {l : List Int} {e : Int} (h : tkE l = e) (he : ¬ e = 0) : takeNum l = (0, 0, e) := by
 unfold takeNum
 rw [h, if_neg he]
theorem takeNum_good {l : List Int} (h : tkE l = 0) : takeNum l = (tkN l, tkS l, 0) := by
 unfold takeNum
 rw [if_pos h]
def tri (x : Int × Int × Int) : Ending := .returned (.tuple #[.int .i64 x.1, .int .i64 x.2.1, .int .i64 x.2.2])
set_option maxHeartbeats 1000000 in
theorem refTake_any (A : Option Addr) (c : Nat) (l : List Int) (w : World) (hr : Kd.C (Kd.int .u8) w A l.length l) (hc : l.length ≤ c) (hb : okB l = true) :
  Calls Tryz.prog 129 #[.slice A l.length c] w fun e w' => e = tri (takeNum l) ∧ w = w' := by
 have HR := Aside0.mk hr
 have HC := Aside0.mk hc
 have HB := Aside0.mk hb
 clear hr hc hb
 obtain ⟨E, hE⟩ : ∃ E, tri (takeNum l) = E := ⟨_, rfl⟩
 rw [hE]
 have HE := Aside0.mk hE
 clear hE
 by_cases h1 : l = []
 ·have he : tkE l = 10 := by unfold tkE; rw [if_pos h1]
  have HF := Aside0.mk (HE.out.symm.trans (congrArg tri (takeNum_bad he (by decide))))
  subst h1
  clear he
  go_enter Tryz.func129, Tryz.ntmps129
  go_wp2
  go_ret3
  exact ⟨HF.out.symm, rfl⟩
 have hl : 0 < l.length := List.length_pos_iff.2 h1
 have hlz : ((l.length : Int) == 0) = false := beq_eq_false_iff_ne.2 (by omega)
 have hb0 := okB_rd HB.out 0
 obtain ⟨ad, hA, hx0⟩ := Kd.at_int HR.out 0 (by omega) (by omega)
 rw [show ((0 : Int)).toNat = 0 from rfl, Addr.add_zero'] at hx0
 subst hA
 have hmx : (l.length : Int) ≤ 9223372036854775807 := by have := Kd.C_max HR.out; omega
 by_cases h2 : 17 < rd l 0 ∨ rd l 0 = 1
 ·have he : tkE l = 11 := by unfold tkE; rw [if_neg h1, if_pos h2]
  have HF := Aside0.mk (HE.out.symm.trans (congrArg tri (takeNum_bad he (by decide))))
  have h3 : decide (17 < rd l 0) = true ∨ (decide (17 < rd l 0) = false ∧ (rd l 0 == 1) = true) := by
   rcases h2 with h | h
   ·exact .inl (decide_eq_true h)
   ·exact .inr ⟨decide_eq_false (by omega), by rw [h]; rfl⟩
  clear h2 he h1
  rcases h3 with h3 | ⟨h3, h4⟩
  all_goals
   go_enter Tryz.func129, Tryz.ntmps129
   go_wp2
   go_ret3
   exact ⟨HF.out.symm, rfl⟩
 have h3 : decide (17 < rd l 0) = false := decide_eq_false (by omega)
 have h4 : (rd l 0 == 1) = false := beq_eq_false_iff_ne.2 (by omega)
 obtain ⟨k, hk⟩ : ∃ k, tkK l = k := ⟨_, rfl⟩
 have hk8 : k ≤ 8 := by unfold tkK at hk; omega
 have hq : rd l 0 / 2 = (k : Int) := by unfold tkK at hk; omega
 by_cases h5 : l.length ≤ k
 ·have he : tkE l = 10 := by unfold tkE; rw [if_neg h1, if_neg h2, hk, if_pos h5]
  have HF := Aside0.mk (HE.out.symm.trans (congrArg tri (takeNum_bad he (by decide))))
  have h6 : (l.length : Int) - 1 < (k : Int) := by omega
  clear h2 he h1
  have HK := Lib.hid hk
  clear hk
  go_enter Tryz.func129, Tryz.ntmps129
  go_wp2
  go_ret3
  exact ⟨HF.out.symm, rfl⟩
 have h6 : ¬ (l.length : Int) - 1 < (k : Int) := by omega
 have hrk : ∀ i : Nat, i ≤ k → w.cell? (ad.add i) = some (.int .u8 (rd l (i : Int))) := by
  intro i hi
  obtain ⟨ad', hA, hx⟩ := Kd.at_int HR.out (i : Int) (by omega) (by omega)
  obtain rfl : ad = ad' := by injection hA
  simpa using hx
 have hxk := hrk k (Nat.le_refl _)
 have h11 : (k : Int) < (l.length : Int) := by omega
 have HP := Aside0.mk (show tkE l = if 0 < k ∧ rd l k = 0 then 11 else if big63 < tkU l ∨ (tkU l = big63 ∧ rd l 0 % 2 = 0) then 11 else 0 by unfold tkE; rw [if_neg h1, if_neg h2, hk, if_neg h5])
 have HK := Lib.hid hk
 have HRK := Aside0.mk hrk
 clear hk hrk h2 h5
 go_enter Tryz.func129, Tryz.ntmps129
 go_wp2
 go_loop [6, 7] (fun u i => ∃ (j : Nat) (U : Int), j ≤ tkK l ∧ i = .int .i64 (j : Int) ∧ u = .int .u64 U ∧ Aside0 (U = upFrom l j (tkK l))) (fun _ i => (intOf i).toNat)
 case atStart => exact ⟨tkK l, 0, Nat.le_refl _, by rw [HK.out], rfl, ⟨(upFrom_end _ _).symm⟩⟩
 case round =>
  obtain ⟨j, U, hj, rfl, rfl, HU⟩ := hrel
  have hk8' : tkK l ≤ 8 := by rw [HK.out]; exact hk8
  have hkl : tkK l < l.length := by rw [HK.out]; omega
  by_cases hlt : 0 < j
  ·have hxj := HRK.out j (by rw [← HK.out]; exact hj)
   have hj0 : (0 : Int) ≤ (j : Int) := by omega
   have hj1 : (j : Int) < (l.length : Int) := by omega
   have hj2 : (1 : Int) ≤ (j : Int) := by omega
   have hbj := okB_rd HB.out (j : Int)
   have HV := Aside0.mk (show 256 * U + rd l j = upFrom l (j - 1) (tkK l) by
    rw [HU.out, upFrom_step hlt hj hkl]; omega)
   have hU0 : 0 ≤ U := by rw [HU.out]; exact upFrom_nonneg HB.out _ _
   have hU1 : U < 72057594037927936 := by rw [HU.out]; exact upFrom_lt HB.out hlt hk8'
   go_wp2
   go_round
   case rel =>
    refine ⟨j - 1, _, by omega, by go_num, rfl, ⟨?_⟩⟩
    exact HV.out
   case measure => simp [intOf]; omega
  ·obtain rfl : j = 0 := by omega
   have hU : U = tkU l := by rw [HU.out, upFrom_zero]
   have hu0 : 0 ≤ U := by rw [HU.out]; exact upFrom_nonneg HB.out 0 _
   have hu1 : U < 18446744073709551616 := by rw [HU.out]; exact upFrom_lt8 HB.out (j := 0) hk8'
   have hS : tkS l = 1 + (tkK l : Int) := by unfold tkS; omega
   rw [HK.out] at hS
   have hup : k = 0 → U = 0 := by intro h; rw [HU.out, HK.out, h, upFrom_end]
   have hT := HP.out
   rw [← hU] at hT
   unfold big63 at hT
   have hm : rd l 0 % 2 = 0 ∨ rd l 0 % 2 = 1 := by omega
   by_cases h7 : 0 < k ∧ rd l k = 0
   ·have HF := Aside0.mk (HE.out.symm.trans (congrArg tri (takeNum_bad (e := 11) (by rw [hT, if_pos h7]) (by decide))))
    obtain ⟨h8, h9⟩ := h7
    rw [h9] at hxk
    clear hT hU HU hS h9 hm hup
    go_wp2
    go_ret3
    exact ⟨HF.out.symm, rfl⟩
   have h8 : (¬ 0 < k) ∨ (0 < k ∧ (rd l k == 0) = false) := by
    rcases Nat.eq_zero_or_pos k with h | h
    ·exact .inl (by omega)
    ·exact .inr ⟨h, beq_eq_false_iff_ne.2 (fun h' => h7 ⟨h, h'⟩)⟩
   rw [if_neg h7] at hT
   clear h7 hup
   rcases hm with hm | hm
   ·have hm1 : (rd l 0 % 2 == 0) = true := beq_iff_eq.2 hm
    by_cases hg : U < 9223372036854775808
    ·have hN : tkN l = U := by unfold tkN; rw [if_neg (by omega), hU]
     have HF := Aside0.mk (HE.out.symm.trans (congrArg tri (takeNum_good (by rw [hT, if_neg (by omega)]))))
     rw [hN, hS] at HF
     clear hU HU hN hS hT hm
     have hg1 : decide (9223372036854775808 ≤ U) = false := decide_eq_false (by omega)
     rcases h8 with h8 | ⟨h8, h9⟩
     all_goals
      go_wp2
      go_ret3
      exact ⟨HF.out.symm, rfl⟩
    ·have HF := Aside0.mk (HE.out.symm.trans (congrArg tri (takeNum_bad (e := 11) (by rw [hT, if_pos (by omega)]) (by decide))))
     clear hU HU hS hT hm
     have hg1 : decide (9223372036854775808 ≤ U) = true := decide_eq_true (by omega)
     rcases h8 with h8 | ⟨h8, h9⟩
     all_goals
      go_wp2
      go_ret3
      exact ⟨HF.out.symm, rfl⟩
   ·have hm1 : (rd l 0 % 2 == 0) = false := beq_eq_false_iff_ne.2 (by omega)
    by_cases hg : 9223372036854775808 < U
    ·have HF := Aside0.mk (HE.out.symm.trans (congrArg tri (takeNum_bad (e := 11) (by rw [hT, if_pos (by omega)]) (by decide))))
     clear hU HU hS hT hm
     have hg1 : decide (9223372036854775808 < U) = true := decide_eq_true hg
     rcases h8 with h8 | ⟨h8, h9⟩
     all_goals
      go_wp2
      go_ret3
      exact ⟨HF.out.symm, rfl⟩
    ·have hN : tkN l = wrap64 (wrap64 (-(wrap64 (IntKind.u64.wrap (U - 1)))) - 1) := by
      unfold tkN; rw [if_pos hm, hU, IntKind.wrap_u64]; unfold wrap64; omega
     have HF := Aside0.mk (HE.out.symm.trans (congrArg tri (takeNum_good (by rw [hT, if_neg (by omega)]))))
     rw [hN, hS] at HF
     clear hU HU hN hS hT hm
     have hg1 : decide (9223372036854775808 < U) = false := decide_eq_false (by omega)
     rcases h8 with h8 | ⟨h8, h9⟩
     all_goals
      go_wp2
      go_ret3
      exact ⟨HF.out.symm, rfl⟩
end Go.Proofs.YtgiefblcckikeaaGreat.M
namespace Go.Proofs.YtgiefblcckikeaaGreat.G
open Go.RowKit Go.Proofs.YtgiefblcckikeaaGreatW.PrintWords Go.Proofs.YtgiefblcckikeaaGreat.M
def trivetref01_TakeNum.f (l0 : List Int) : Option (Int × Int × Int) := if okB l0 = true then some (takeNum l0) else none
theorem trivetref01_TakeNum.calls (A0 : Option Addr) (c0 : Nat) (l0 : List Int) (r1 : Int) (r2 : Int) (r3 : Int) (w : World) (hr0 : Kd.C (Kd.int .u8) w A0 l0.length l0) (hc0 : l0.length ≤ c0) (h : trivetref01_TakeNum.f l0 = some (r1, r2, r3)) :
  Calls Tryz.prog 129 #[.slice A0 l0.length c0] w fun e w' => e = .returned (.tuple #[.int .i64 r1, .int .i64 r2, .int .i64 r3]) ∧ Below w.heap.size w w' := by
 unfold trivetref01_TakeNum.f at h
 split at h
 ·rename_i hb
  have h := Option.some.inj h
  have h1 : r1 = (takeNum l0).1 := by rw [h]
  have h2 : r2 = (takeNum l0).2.1 := by rw [h]
  have h3 : r3 = (takeNum l0).2.2 := by rw [h]
  rw [h1, h2, h3]
  refine (refTake_any A0 c0 l0 w hr0 hc0 hb).mono ?_
  rintro e w' ⟨rfl, rfl⟩
  exact ⟨rfl, Below.refl _ _⟩
 ·cases h
end Go.Proofs.YtgiefblcckikeaaGreat.G
end

section
-- Written by a program of this session's (wip/gprint.py over the kit's printer).
namespace Go.Proofs.YtgiefblcckikeaaGreat.G
open Go.RowKit Go.Proofs.YtgiefblcckikeaaGreatW.PrintWords Go.Proofs.YtgiefblcckikeaaGreatW.PrintLast Go.Proofs.YtgiefblcckikeaaGreatW.PrintMore
attribute [local go_sem] max2_int min2_int max_two min_two max_three min_three max_four min_four   -- for this text's walks alone
end Go.Proofs.YtgiefblcckikeaaGreat.G
end

section
-- Written by a program of this session's (wip/gprint.py over the kit's printer).
namespace Go.Proofs.YtgiefblcckikeaaGreat.G
open Go.RowKit Go.Proofs.YtgiefblcckikeaaGreatW.PrintWords Go.Proofs.YtgiefblcckikeaaGreatW.PrintLast Go.Proofs.YtgiefblcckikeaaGreatW.PrintMore
attribute [local go_sem] max2_int min2_int max_two min_two max_three min_three max_four min_four   -- for this text's walks alone
end Go.Proofs.YtgiefblcckikeaaGreat.G
end

section
/- The reference's Reader reads numbers and bytes as the eye does. -/
attribute [local irreducible] Go.wpStill
namespace Go.Proofs.YtgiefblcckikeaaGreat.M
open Go.RowKit Go.Proofs.YtgiefblcckikeaaGreatW.PrintWords Go.Proofs.YtgiefblcckikeaaGreatW.PrintLast Go.Proofs.YtgiefblcckikeaaGreatW.PrintMore Go.Proofs.YtgiefblcckikeaaGreat.G
def IsRd (B : List Int) (w0 W : World) (x : Nat) (s : EyeS) : Prop := ∃ (A : Option Addr) (c k : Nat), W.heap[x]? = some (.cells #[.slice A B.length c, .int .i64 (k : Int), .int .i64 s.e, .bool s.o] 86) ∧ w0.heap.size ≤ x ∧ B.length ≤ c ∧ Kd.C (Kd.int .u8) w0 A B.length B ∧ k ≤ B.length ∧ B.drop k = s.l ∧ B.length < 140737488355328
theorem IsRd.lt {B : List Int} {w0 W : World} {x : Nat} {s : EyeS} (h : IsRd B w0 W x s) : x < W.heap.size := by
 obtain ⟨A, c, k, h1, _⟩ := h
 exact (Array.getElem?_eq_some_iff.1 h1).1
theorem IsRd.at {B : List Int} {w0 W W' : World} {x : Nat} {s : EyeS} (h : IsRd B w0 W x s) (e : W'.heap[x]? = W.heap[x]?) : IsRd B w0 W' x s := by
 obtain ⟨A, c, k, h1, h2⟩ := h
 exact ⟨A, c, k, e.trans h1, h2⟩
theorem IsRd.below {B : List Int} {w0 W W' : World} {x : Nat} {s : EyeS} (h : IsRd B w0 W x s) (hb : Below W.heap.size W W') : IsRd B w0 W' x s := h.at (hb.block x h.lt)
theorem IsRd.ge {B : List Int} {w0 W : World} {x : Nat} {s : EyeS} (h : IsRd B w0 W x s) : w0.heap.size ≤ x := by
 obtain ⟨A, c, k, h1, h2, _⟩ := h
 exact h2
theorem takeNum_err {l : List Int} (h : ¬ (takeNum l).2.2 = 0) : (takeNum l).1 = 0 ∧ (takeNum l).2.1 = 0 := by
 unfold takeNum at h ⊢
 by_cases h0 : tkE l = 0
 ·rw [if_pos h0] at h
  exact absurd rfl h
 ·rw [if_neg h0]
  exact ⟨rfl, rfl⟩
end Go.Proofs.YtgiefblcckikeaaGreat.M
end

section
/- The reference's Reader: the length of a list. -/
attribute [local irreducible] Go.wpStill
namespace Go.Proofs.YtgiefblcckikeaaGreat.M
open Go.RowKit Go.Proofs.YtgiefblcckikeaaGreatW.PrintWords Go.Proofs.YtgiefblcckikeaaGreatW.PrintLast Go.Proofs.YtgiefblcckikeaaGreatW.PrintMore Go.Proofs.YtgiefblcckikeaaGreat.G
theorem eWrong_true (s : EyeS) : ¬ (eWrong true s).e = 0 := by
 unfold eWrong
 split
 ·show ¬ (40 : Int) = 0; omega
 ·next h => exact fun e => h ⟨e, rfl⟩
theorem eWrong_false (s : EyeS) : eWrong false s = s := by unfold eWrong; rw [if_neg (fun h => by cases h.2)]
end Go.Proofs.YtgiefblcckikeaaGreat.M
end

section
/- The reference's Reader: keys. -/
attribute [local irreducible] Go.wpStill
namespace Go.Proofs.YtgiefblcckikeaaGreat.M
open Go.RowKit Go.Proofs.YtgiefblcckikeaaGreatW.PrintWords Go.Proofs.YtgiefblcckikeaaGreatW.PrintLast Go.Proofs.YtgiefblcckikeaaGreatW.PrintMore Go.Proofs.YtgiefblcckikeaaGreat.G
theorem eSmall_range (s : EyeS) : eSmall s = if -2147483648 ≤ (eNum s).1 ∧ (eNum s).1 ≤ 2147483647 then eNum s else (0, { (eNum s).2 with o := true }) := by
 unfold eSmall
 by_cases h : -2147483648 ≤ (eNum s).1 ∧ (eNum s).1 ≤ 2147483647
 ·rw [if_pos h, if_pos (by rw [IntKind.wrap_i32]; omega)]
 ·rw [if_neg h, if_neg (by rw [IntKind.wrap_i32]; omega)]
end Go.Proofs.YtgiefblcckikeaaGreat.M
end

section
/- The reference's Reader: Ends. -/
attribute [local irreducible] Go.wpStill
namespace Go.Proofs.YtgiefblcckikeaaGreat.M
open Go.RowKit Go.Proofs.YtgiefblcckikeaaGreatW.PrintWords Go.Proofs.YtgiefblcckikeaaGreatW.PrintLast Go.Proofs.YtgiefblcckikeaaGreatW.PrintMore Go.Proofs.YtgiefblcckikeaaGreat.G
end Go.Proofs.YtgiefblcckikeaaGreat.M
end

section
/- Reading, in plain Lean: the eye's and the reference's reader's values, and that they agree. -/
namespace Go.Proofs.YtgiefblcckikeaaGreat.M
open Go.RowKit Go.Proofs.YtgiefblcckikeaaGreatW.PrintWords Go.Proofs.YtgiefblcckikeaaGreatW.PrintLast Go.Proofs.YtgiefblcckikeaaGreatW.PrintMore Go.Proofs.YtgiefblcckikeaaGreat.G
def FM {α γ : Type} (f : α → γ) (g : EyeS → α × EyeS) (s : EyeS) : γ × EyeS := (f (g s).1, (g s).2)
def PR {α β : Type} (g : EyeS → α × EyeS) (k : EyeS → β × EyeS) (s : EyeS) : (α × β) × EyeS := (((g s).1, (k (g s).2).1), (k (g s).2).2)
structure Sim {α : Type} (bad : α → Prop) (g g' : EyeS → α × EyeS) : Prop where
 le : ∀ s s' : EyeS, s.l = s'.l → s.e = s'.e → (g s).2.l = (g' s').2.l ∧ (g s).2.e = (g' s').2.e
 st : ∀ s : EyeS, ¬ s.e = 0 → (g s).2.l = s.l ∧ (g s).2.e = s.e
 mo : ∀ s : EyeS, s.o = true → (g s).2.o = true
 mo' : ∀ s : EyeS, s.o = true → (g' s).2.o = true
 eq : ∀ s s' : EyeS, s.l = s'.l → s.e = s'.e → (g s).2.e = 0 → ((g s).1 = (g' s').1 ∧ (s.o = s'.o → (g s).2.o = (g' s').2.o)) ∨ ((g s).2.o = true ∧ ((g' s').2.o = true ∨ bad (g' s').1))
variable {α β γ : Type} {b1 : α → Prop} {b2 : β → Prop} {g g' : EyeS → α × EyeS} {k k' : EyeS → β × EyeS}
theorem Sim.fm (h : Sim b1 g g') (f : α → γ) (b : γ → Prop) (hb : ∀ a, b1 a → b (f a)) : Sim b (FM f g) (FM f g') :=
 ⟨h.le, h.st, h.mo, h.mo', fun s s' h1 h2 h3 => (h.eq s s' h1 h2 h3).imp (fun q => ⟨congrArg f q.1, q.2⟩) (fun q => ⟨q.1, q.2.imp id (hb _)⟩)⟩
theorem Sim.pr (h : Sim b1 g g') (q : Sim b2 k k') : Sim (fun x : α × β => b1 x.1 ∨ b2 x.2) (PR g k) (PR g' k') where
 le s s' h1 h2 := q.le _ _ (h.le s s' h1 h2).1 (h.le s s' h1 h2).2
 st s hs := by
  obtain ⟨a, b⟩ := h.st s hs
  obtain ⟨c, d⟩ := q.st (g s).2 (by rw [b]; exact hs)
  exact ⟨c.trans a, d.trans b⟩
 mo s hs := q.mo _ (h.mo s hs)
 mo' s hs := q.mo' _ (h.mo' s hs)
 eq s s' h1 h2 h3 := by
  obtain ⟨a, b⟩ := h.le s s' h1 h2
  have ht : (g s).2.e = 0 := by
   by_cases ht : (g s).2.e = 0
   ·exact ht
   ·exact absurd ((q.st _ ht).2.symm.trans h3) ht
  rcases q.eq _ _ a b h3 with c | c
  ·rcases h.eq s s' h1 h2 ht with d | d
   ·exact .inl ⟨Prod.ext d.1 c.1, fun e => c.2 (d.2 e)⟩
   ·exact .inr ⟨q.mo _ d.1, d.2.elim (fun e => .inl (q.mo' _ e)) (fun e => .inr (.inl e))⟩
  ·exact .inr ⟨c.1, c.2.imp id .inr⟩
theorem sim_num : Sim (fun _ => False) eNum eNum where
 le s s' h1 h2 := by
  unfold eNum
  rw [h1, h2]
  split
  ·exact ⟨rfl, rfl⟩
  ·exact ⟨h1, h2⟩
 st s hs := by unfold eNum; rw [if_neg hs]; exact ⟨rfl, rfl⟩
 mo s hs := by
  unfold eNum
  split
  ·exact hs
  ·exact hs
 mo' s hs := by
  unfold eNum
  split
  ·exact hs
  ·exact hs
 eq s s' h1 h2 _ := by
  left
  unfold eNum
  rw [h1, h2]
  split
  ·exact ⟨rfl, id⟩
  ·exact ⟨rfl, id⟩
theorem sim_data : Sim (fun _ => False) eData eData where
 le s s' h1 h2 := by
  unfold eData
  rw [h1, h2]
  split
  ·exact ⟨rfl, rfl⟩
  ·exact ⟨h1, h2⟩
 st s hs := by unfold eData; rw [if_neg hs]; exact ⟨rfl, rfl⟩
 mo s hs := by
  unfold eData
  split
  ·exact hs
  ·exact hs
 mo' s hs := by
  unfold eData
  split
  ·exact hs
  ·exact hs
 eq s s' h1 h2 _ := by
  left
  unfold eData
  rw [h1, h2]
  split
  ·exact ⟨rfl, id⟩
  ·exact ⟨rfl, id⟩
theorem eNum_v {s s' : EyeS} (h1 : s.l = s'.l) (h2 : s.e = s'.e) : (eNum s).1 = (eNum s').1 := by
 unfold eNum
 rw [h1, h2]
 split
 ·rfl
 ·rfl
theorem eNum_o (s : EyeS) : (eNum s).2.o = s.o := by
 unfold eNum
 split
 ·rfl
 ·rfl
theorem eNum_z {s : EyeS} (h : ¬ (eNum s).2.e = 0) : (eNum s).1 = 0 := by
 by_cases he : s.e = 0
 ·unfold eNum at h ⊢
  rw [if_pos he] at h ⊢
  exact (takeNum_err h).1
 ·unfold eNum
  rw [if_neg he]
def rSmall (s : EyeS) : Int × EyeS := if (eNum s).1 < -2147483648 ∨ 2147483648 < (eNum s).1 then (-2147483648, (eNum s).2) else eNum s
def SmBad (v : Int) : Prop := v = -2147483648 ∨ v = 2147483648
theorem eSmall_2 (s : EyeS) : (eSmall s).2.l = (eNum s).2.l ∧ (eSmall s).2.e = (eNum s).2.e ∧ (s.o = true → (eSmall s).2.o = true) := by
 rw [eSmall_range]
 split
 ·exact ⟨rfl, rfl, sim_num.mo s⟩
 ·exact ⟨rfl, rfl, fun _ => rfl⟩
theorem rSmall_2 (s : EyeS) : (rSmall s).2 = (eNum s).2 := by
 unfold rSmall
 split
 ·rfl
 ·rfl
theorem sim_small : Sim SmBad eSmall rSmall where
 le s s' h1 h2 := by
  obtain ⟨a, b, _⟩ := eSmall_2 s
  rw [a, b, rSmall_2]
  exact sim_num.le s s' h1 h2
 st s hs := by
  obtain ⟨a, b, _⟩ := eSmall_2 s
  rw [a, b]
  exact sim_num.st s hs
 mo s hs := (eSmall_2 s).2.2 hs
 mo' s hs := by rw [rSmall_2]; exact sim_num.mo s hs
 eq s s' h1 h2 _ := by
  have hv := eNum_v h1 h2
  by_cases r : -2147483648 ≤ (eNum s).1 ∧ (eNum s).1 ≤ 2147483647
  ·left
   rw [eSmall_range, if_pos r]
   unfold rSmall
   rw [if_neg (by omega)]
   exact ⟨hv, fun h => by rw [eNum_o, eNum_o]; exact h⟩
  ·right
   rw [eSmall_range, if_neg r]
   refine ⟨rfl, .inr ?_⟩
   unfold rSmall SmBad
   split
   ·exact .inl rfl
   ·exact .inr (by show (eNum s').1 = 2147483648; omega)
theorem sim_small0 : Sim (fun _ => False) eSmall eSmall where
 le s s' h1 h2 := by
  obtain ⟨a, b, _⟩ := eSmall_2 s
  obtain ⟨c, d, _⟩ := eSmall_2 s'
  rw [a, b, c, d]
  exact sim_num.le s s' h1 h2
 st := sim_small.st
 mo := sim_small.mo
 mo' := sim_small.mo
 eq s s' h1 h2 _ := by
  have hv := eNum_v h1 h2
  left
  rw [eSmall_range s, eSmall_range s', ← hv]
  split
  ·exact ⟨hv, fun h => by rw [eNum_o, eNum_o]; exact h⟩
  ·exact ⟨rfl, fun _ => rfl⟩
theorem sim_key : Sim (fun _ => False) eKey eKey := (((sim_small0.pr sim_num).fm (fun x : Int × Int => (⟨x.1, x.2⟩ : KeyD)) (fun _ => False) (fun _ h => h.elim id id) : Sim (fun _ => False) (FM (fun x : Int × Int => (⟨x.1, x.2⟩ : KeyD)) (PR eSmall eNum)) (FM (fun x : Int × Int => (⟨x.1, x.2⟩ : KeyD)) (PR eSmall eNum))))
theorem eWrong_l (b : Bool) (s : EyeS) : (eWrong b s).l = s.l ∧ (eWrong b s).o = s.o := by
 unfold eWrong
 split
 ·exact ⟨rfl, rfl⟩
 ·exact ⟨rfl, rfl⟩
theorem eWrong_e (b : Bool) {s s' : EyeS} (h : s.e = s'.e) : (eWrong b s).e = (eWrong b s').e := by
 unfold eWrong
 rw [h]
 split
 ·rfl
 ·exact h
theorem eWrong_st (b : Bool) {s : EyeS} (h : ¬ s.e = 0) : eWrong b s = s := by
 unfold eWrong
 rw [if_neg (fun q => h q.1)]
theorem sim_many (h : Sim b1 g g') : ∀ n, Sim (fun l : List α => ∃ x ∈ l, b1 x) (eMany g n) (eMany g' n)
 | 0 => ⟨fun s s' h1 h2 => ⟨h1, h2⟩, fun s _ => ⟨rfl, rfl⟩, fun s q => q, fun s q => q, fun s s' h1 h2 _ => .inl ⟨rfl, id⟩⟩
 | n + 1 => by
  have ih := (h.pr (sim_many h n)).fm (fun x : α × List α => x.1 :: x.2) (fun l : List α => ∃ x ∈ l, b1 x) (fun x q => q.elim (fun e => ⟨x.1, List.mem_cons_self .., e⟩) (fun ⟨y, m, e⟩ => ⟨y, List.mem_cons_of_mem _ m, e⟩))
  have e1 : ∀ s : EyeS, s.e = 0 → eMany g (n + 1) s = FM (fun x : α × List α => x.1 :: x.2) (PR g (eMany g n)) s := fun s hs => by simp only [eMany, if_pos hs]; rfl
  have e2 : ∀ s : EyeS, s.e = 0 → eMany g' (n + 1) s = FM (fun x : α × List α => x.1 :: x.2) (PR g' (eMany g' n)) s := fun s hs => by simp only [eMany, if_pos hs]; rfl
  refine ⟨fun s s' h1 h2 => ?_, fun s hs => ?_, fun s hs => ?_, fun s hs => ?_, fun s s' h1 h2 h3 => ?_⟩
  ·by_cases hs : s.e = 0
   ·rw [e1 s hs, e2 s' (h2 ▸ hs)]; exact ih.le s s' h1 h2
   ·rw [eMany_stop hs, eMany_stop (fun q => hs (h2.trans q))]; exact ⟨h1, h2⟩
  ·rw [eMany_stop hs]; exact ⟨rfl, rfl⟩
  ·by_cases he : s.e = 0
   ·rw [e1 s he]; exact ih.mo s hs
   ·rw [eMany_stop he]; exact hs
  ·by_cases he : s.e = 0
   ·rw [e2 s he]; exact ih.mo' s hs
   ·rw [eMany_stop he]; exact hs
  ·by_cases hs : s.e = 0
   ·rw [e1 s hs] at h3 ⊢
    rw [e2 s' (h2 ▸ hs)]; exact ih.eq s s' h1 h2 h3
   ·rw [eMany_stop hs] at h3; exact absurd h3 hs
theorem eCount_le {s s' : EyeS} (h1 : s.l = s'.l) (h2 : s.e = s'.e) : (eCount s).l = (eCount s').l ∧ (eCount s).e = (eCount s').e := by
 obtain ⟨a, b⟩ := sim_num.le s s' h1 h2
 unfold eCount
 rw [(eWrong_l _ _).1, (eWrong_l _ _).1, eNum_v h1 h2]
 exact ⟨a, eWrong_e _ b⟩
theorem eCount_o (s : EyeS) : (eCount s).o = s.o := by unfold eCount; rw [(eWrong_l _ _).2, eNum_o]
theorem sim_list (h : Sim b1 g g') : Sim (fun l : List α => ∃ x ∈ l, b1 x) (eList g) (eList g') where
 le s s' h1 h2 := by
  obtain ⟨a, b⟩ := eCount_le h1 h2
  unfold eList
  rw [eNum_v h1 h2]
  exact (sim_many h _).le _ _ a b
 st s hs := by
  obtain ⟨a, b⟩ := sim_num.st s hs
  have hc : (eCount s) = (eNum s).2 := by unfold eCount; exact eWrong_st _ (by rw [b]; exact hs)
  obtain ⟨c, d⟩ := (sim_many h (eNum s).1.toNat).st (eCount s) (by rw [hc, b]; exact hs)
  unfold eList
  rw [c, d, hc]
  exact ⟨a, b⟩
 mo s hs := (sim_many h _).mo _ (by rw [eCount_o]; exact hs)
 mo' s hs := (sim_many h _).mo' _ (by rw [eCount_o]; exact hs)
 eq s s' h1 h2 h3 := by
  obtain ⟨a, b⟩ := eCount_le h1 h2
  unfold eList at h3 ⊢
  rw [← eNum_v h1 h2]
  refine ((sim_many h _).eq _ _ a b h3).imp (fun q => ⟨q.1, fun e => q.2 (by rw [eCount_o, eCount_o]; exact e)⟩) id
theorem Sim.weak (h : Sim b1 g g') {b : α → Prop} (hb : ∀ a, b1 a → b a) : Sim b g g' := ⟨h.le, h.st, h.mo, h.mo', fun s s' h1 h2 h3 => (h.eq s s' h1 h2 h3).imp id (fun q => ⟨q.1, q.2.imp id (hb _)⟩)⟩
theorem sim_list0 (h : Sim (fun _ => False) g g') : Sim (fun _ => False) (eList g) (eList g') := (sim_list h).weak (fun _ ⟨_, _, q⟩ => q)
abbrev txW (x : Int × Int × List Int × List Int × List KeyD × List KeyD) : TxD := ⟨x.1, x.2.1, x.2.2.1, x.2.2.2.1, x.2.2.2.2.1, x.2.2.2.2.2⟩
theorem sim_txn : Sim (fun _ => False) eTxn eTxn :=
 (((sim_num.pr (sim_num.pr (sim_data.pr ((sim_list0 sim_num).pr ((sim_list0 sim_key).pr (sim_list0 sim_key)))))).fm txW (fun _ => False) (fun _ h => by simp at h)) :
  Sim (fun _ => False) (FM txW (PR eNum (PR eNum (PR eData (PR (eList eNum) (PR (eList eKey) (eList eKey))))))) (FM txW (PR eNum (PR eNum (PR eData (PR (eList eNum) (PR (eList eKey) (eList eKey))))))))
def bEntry (sm : EyeS → Int × EyeS) : EyeS → EnD × EyeS := FM (fun x : Int × Int × List TxD => ((1, x.1, x.2.1, x.2.2) : EnD)) (PR sm (PR eNum (eList eTxn)))
theorem eBody_b (s : EyeS) : eBody s = bEntry eSmall s := rfl
def rEntry (s : EyeS) : EnD × EyeS := if (rSmall s).1 = 0 then ((0, 0, 0, []), (rSmall s).2) else if (rSmall s).1 = 1 then bEntry rSmall (rSmall s).2 else (((rSmall s).1, 0, 0, []), eWrong true (rSmall s).2)
def EnBad (x : EnD) : Prop := mayE x.1 x.2.1 x.2.2.1 x.2.2.2 = false
theorem smBad_from {v : Int} (h : SmBad v) : inB 0 4 [v] = false := by
 rcases h with h | h <;> (subst h; rfl)
theorem sim_bentry : Sim EnBad (bEntry eSmall) (bEntry rSmall) :=
 (sim_small.pr (sim_num.pr (sim_list0 sim_txn))).fm _ _ (fun x h => by
  have h0 : SmBad x.1 := h.elim id (fun q => absurd q (by simp))
  show mayE 1 x.1 x.2.1 x.2.2 = false
  unfold mayE
  simp [smBad_from h0])
theorem rSmall_v {s : EyeS} (h : -2147483648 ≤ (eNum s).1 ∧ (eNum s).1 ≤ 2147483647) : rSmall s = eNum s := by
 unfold rSmall
 rw [if_neg (by omega)]
theorem rSmall_x {s : EyeS} {a b : Int} (ha : -2147483648 < a) (hb : b < 2147483648) (h : ¬ (a ≤ (eNum s).1 ∧ (eNum s).1 ≤ b)) : ¬ (a ≤ (rSmall s).1 ∧ (rSmall s).1 ≤ b) := by
 unfold rSmall
 split
 ·show ¬ (a ≤ -2147483648 ∧ _); omega
 ·exact h
theorem entry_cases {s s' : EyeS} (h1 : s.l = s'.l) (h2 : s.e = s'.e) :
  (eEntry s = ((0, 0, 0, []), (eNum s).2) ∧ rEntry s' = ((0, 0, 0, []), (eNum s').2)) ∨
  ((eNum s).2.e = 0 ∧ eEntry s = bEntry eSmall (eNum s).2 ∧ rEntry s' = bEntry rSmall (eNum s').2) ∨
  ((eNum s).2.e = 0 ∧ eEntry s = ((0, 0, 0, []), eWrong true (eNum s).2) ∧ ∃ v, rEntry s' = ((v, 0, 0, []), eWrong true (eNum s').2)) := by
 have hv := eNum_v h1 h2
 by_cases hn0 : (eNum s).1 = 0
 ·left
  have hr : rSmall s' = eNum s' := rSmall_v (by omega)
  have hk : eKind s = (eNum s).2 := by unfold eKind; rw [hn0]; exact eWrong_false _
  unfold eEntry rEntry
  rw [if_pos (.inr hn0), hk, hr, if_pos (hv.symm.trans hn0)]
  exact ⟨rfl, rfl⟩
 ·have he : (eNum s).2.e = 0 := by
   by_cases he : (eNum s).2.e = 0
   ·exact he
   ·exact absurd (eNum_z he) hn0
  right
  by_cases hn1 : (eNum s).1 = 1
  ·left
   have hr : rSmall s' = eNum s' := rSmall_v (by omega)
   have hk : eKind s = (eNum s).2 := by unfold eKind; rw [hn1]; exact eWrong_false _
   refine ⟨he, ?_, ?_⟩
   ·unfold eEntry
    rw [hk, if_neg (fun q => q.elim (fun q => q he) hn0)]
    rfl
   ·unfold rEntry
    rw [hr, if_neg (by omega), if_pos (by omega)]
  ·right
   have hk : eKind s = eWrong true (eNum s).2 := by unfold eKind; rw [decide_eq_true hn0, decide_eq_true hn1]; rfl
   refine ⟨he, ?_, (rSmall s').1, ?_⟩
   ·unfold eEntry
    rw [hk, if_pos (.inl (eWrong_true _))]
   ·have hx := rSmall_x (s := s') (a := 0) (b := 1) (by omega) (by omega) (by omega)
    unfold rEntry
    rw [if_neg (by omega), if_neg (by omega), rSmall_2]
theorem eNum_st {s : EyeS} (h : ¬ s.e = 0) : (eNum s).2 = s := by unfold eNum; rw [if_neg h]
theorem sim_entry : Sim EnBad eEntry rEntry where
 le s s' h1 h2 := by
  have hn := sim_num.le s s' h1 h2
  rcases entry_cases h1 h2 with ⟨a, b⟩ | ⟨_, a, b⟩ | ⟨_, a, v, b⟩
  ·rw [a, b]; exact hn
  ·rw [a, b]; exact sim_bentry.le _ _ hn.1 hn.2
  ·rw [a, b]
   exact ⟨by rw [(eWrong_l _ _).1, (eWrong_l _ _).1]; exact hn.1, eWrong_e _ hn.2⟩
 st s hs := by
  have hn := eNum_st hs
  rcases entry_cases (s := s) (s' := s) rfl rfl with ⟨a, _⟩ | ⟨q, _⟩ | ⟨q, _⟩
  ·rw [a, hn]; exact ⟨rfl, rfl⟩
  ·rw [hn] at q; exact absurd q hs
  ·rw [hn] at q; exact absurd q hs
 mo s hs := by
  have hn := sim_num.mo s hs
  rcases entry_cases (s := s) (s' := s) rfl rfl with ⟨a, _⟩ | ⟨_, a, _⟩ | ⟨_, a, _⟩
  ·rw [a]; exact hn
  ·rw [a]; exact sim_bentry.mo _ hn
  ·rw [a]; exact (eWrong_l true (eNum s).2).2.trans hn
 mo' s hs := by
  have hn := sim_num.mo s hs
  rcases entry_cases (s := s) (s' := s) rfl rfl with ⟨_, a⟩ | ⟨_, _, a⟩ | ⟨_, _, v, a⟩
  ·rw [a]; exact hn
  ·rw [a]; exact sim_bentry.mo' _ hn
  ·rw [a]; exact (eWrong_l true (eNum s).2).2.trans hn
 eq s s' h1 h2 h3 := by
  have hn := sim_num.le s s' h1 h2
  rcases entry_cases h1 h2 with ⟨a, b⟩ | ⟨_, a, b⟩ | ⟨_, a, v, b⟩
  ·rw [a, b]; exact .inl ⟨rfl, fun h => by show (eNum s).2.o = (eNum s').2.o; rw [eNum_o, eNum_o]; exact h⟩
  ·rw [a] at h3 ⊢
   rw [b]
   exact (sim_bentry.eq _ _ hn.1 hn.2 h3).imp (fun q => ⟨q.1, fun h => q.2 (by rw [eNum_o, eNum_o]; exact h)⟩) id
  ·rw [a] at h3; exact absurd h3 (eWrong_true _)
abbrev enOf (x : EnD) : EntD := ⟨x.1, x.2.1, x.2.2.1, x.2.2.2⟩
def trOf (en : EyeS → EnD × EyeS) : EyeS → TrD × EyeS := FM (fun x : Int × EnD => (⟨x.1, enOf x.2⟩ : TrD)) (PR eNum en)
abbrev eTr := trOf eEntry
def eYes (s : EyeS) : Bool × EyeS := (decide ((eNum s).1 = 1), eKind s)
theorem eKind_le {s s' : EyeS} (h1 : s.l = s'.l) (h2 : s.e = s'.e) : (eKind s).l = (eKind s').l ∧ (eKind s).e = (eKind s').e := by
 obtain ⟨a, b⟩ := sim_num.le s s' h1 h2
 unfold eKind
 rw [(eWrong_l _ _).1, (eWrong_l _ _).1, eNum_v h1 h2]
 exact ⟨a, eWrong_e _ b⟩
theorem eKind_o (s : EyeS) : (eKind s).o = s.o := by unfold eKind; rw [(eWrong_l _ _).2, eNum_o]
theorem sim_yes : Sim (fun _ => False) eYes eYes where
 le s s' h1 h2 := eKind_le h1 h2
 st s hs := by
  have hk : eKind s = s := by unfold eKind; rw [eNum_st hs]; exact eWrong_st _ hs
  show (eKind s).l = s.l ∧ (eKind s).e = s.e
  rw [hk]
  exact ⟨rfl, rfl⟩
 mo s hs := (eKind_o s).trans hs
 mo' s hs := (eKind_o s).trans hs
 eq s s' h1 h2 _ := .inl ⟨by show decide _ = decide _; rw [eNum_v h1 h2], fun h => by show (eKind s).o = (eKind s').o; rw [eKind_o, eKind_o]; exact h⟩
def ptOf (sm : EyeS → Int × EyeS) : EyeS → PartD × EyeS := FM (fun x : Int × Int × Int × List Int => (⟨x.1, x.2.1, x.2.2.1, x.2.2.2⟩ : PartD)) (PR eNum (PR sm (PR sm eData)))
def mBody (sm : EyeS → Int × EyeS) (en : EyeS → EnD × EyeS) (ls : EyeS → List TrD × EyeS) (k : Int) : EyeS → MsgD × EyeS :=
 if k = 1 then FM (fun x : Int × Int × Int × Int × Int => (⟨1, x.1, x.2.1, x.2.2.1, x.2.2.2.1, x.2.2.2.2, 0, false, [], zE, zP⟩ : MsgD)) (PR sm (PR sm (PR eNum (PR eNum eNum))))
 else if k = 2 then FM (fun x : Int × Int × Int × Bool => (⟨2, x.1, x.2.1, x.2.2.1, 0, 0, 0, x.2.2.2, [], zE, zP⟩ : MsgD)) (PR sm (PR sm (PR eNum eYes)))
 else if k = 3 then FM (fun x : Int × Int × Int × Int × Int × Int × List TrD => (⟨3, x.1, x.2.1, x.2.2.1, x.2.2.2.1, x.2.2.2.2.1, x.2.2.2.2.2.1, false, x.2.2.2.2.2.2, zE, zP⟩ : MsgD)) (PR sm (PR sm (PR eNum (PR eNum (PR eNum (PR eNum ls))))))
 else if k = 4 then FM (fun x : Int × Int × Int × Bool × Int => (⟨4, x.1, x.2.1, x.2.2.1, x.2.2.2.2, 0, 0, x.2.2.2.1, [], zE, zP⟩ : MsgD)) (PR sm (PR sm (PR eNum (PR eYes eNum))))
 else if k = 5 then FM (fun x : Int × Int × Int × Int × Int × PartD => (⟨5, x.1, x.2.1, x.2.2.1, x.2.2.2.1, x.2.2.2.2.1, 0, false, [], zE, x.2.2.2.2.2⟩ : MsgD)) (PR sm (PR sm (PR eNum (PR eNum (PR eNum (ptOf sm))))))
 else if k = 6 then FM (fun x : Int × Int × EnD => (⟨6, x.1, x.2.1, 0, 0, 0, 0, false, [], enOf x.2.2, zP⟩ : MsgD)) (PR sm (PR sm en))
 else FM (fun x : Int × Int × Int => (⟨k, x.1, x.2.1, x.2.2, 0, 0, 0, false, [], zE, zP⟩ : MsgD)) (PR sm (PR sm eNum))
def notKind (k : Int) : Bool := decide (k < 1) || decide (6 < k)
theorem notKind_is (k : Int) : notKind k = !isKind k := by
 unfold notKind isKind
 rw [Bool.eq_iff_iff]
 simp
 try omega
def eMk (s : EyeS) : EyeS := eWrong (notKind (eNum s).1) (eNum s).2
def eMsg (s : EyeS) : MsgD × EyeS := if ¬ (eMk s).e = 0 then (zM, eMk s) else mBody eSmall eEntry (eList eTr) (eNum s).1 (eMk s)
def wholeOf {α : Type} (z : α) (r : α × EyeS) (may all : Bool) : α × Int := if eEnds r.2 may all = 0 then (r.1, 0) else (z, eEnds r.2 may all)
def mayEn (x : EnD) : Bool := mayE x.1 x.2.1 x.2.2.1 x.2.2.2
theorem takeEn_w (l : List Int) : takeEn l = wholeOf (0, 0, 0, []) (eEntry ⟨l, 0, false⟩) (mayEn (eEntry ⟨l, 0, false⟩).1) true := rfl
def takeMs (l : List Int) : MsgD × Int := wholeOf zM (eMsg ⟨l, 0, false⟩) (mayMs (eMsg ⟨l, 0, false⟩).1) true
end Go.Proofs.YtgiefblcckikeaaGreat.M
end

section
/- The pen writes a message (printed by genpenm04.py). -/
attribute [local irreducible] Go.wpStill
namespace Go.Proofs.YtgiefblcckikeaaGreat.M
open Go.RowKit Go.Proofs.YtgiefblcckikeaaGreatW.PrintWords Go.Proofs.YtgiefblcckikeaaGreatW.PrintLast Go.Proofs.YtgiefblcckikeaaGreatW.PrintMore Go.Proofs.YtgiefblcckikeaaGreat.G
def yesB (b : Bool) : List Int := numB (if b = true then 1 else 0)
def trB (x : TrD) : List Int := numB x.f0 ++ entB x.f1.f0 x.f1.f1 x.f1.f2 x.f1.f3
def tailB (m : MsgD) : List Int := if m.f0 = 1 then numsB [m.f3, m.f4, m.f5] else if m.f0 = 2 then numB m.f3 ++ yesB m.f7 else if m.f0 = 3 then numsB [m.f3, m.f4, m.f5, m.f6] ++ numB m.f8.length ++ m.f8.flatMap trB else if m.f0 = 4 then numB m.f3 ++ yesB m.f7 ++ numB m.f4 else if m.f0 = 5 then numsB [m.f3, m.f4, m.f5, m.f10.f0, m.f10.f1, m.f10.f2] ++ numB m.f10.f3.length ++ m.f10.f3 else entB m.f9.f0 m.f9.f1 m.f9.f2 m.f9.f3
def msgB (m : MsgD) : List Int := numsB [m.f0, m.f1, m.f2] ++ tailB m
structure OkM (m : MsgD) : Prop where
 h : okI [m.f0, m.f1, m.f2] = true
 t : okI [m.f3, m.f4, m.f5, m.f6] = true
 p : okI [m.f10.f0, m.f10.f1, m.f10.f2] = true
 e : okE m.f9.f0 m.f9.f1 m.f9.f2 m.f9.f3 = true
 l : ∀ x ∈ m.f8, isI64 x.f0 ∧ okE x.f1.f0 x.f1.f1 x.f1.f2 x.f1.f3 = true
theorem okI_cons {x : Int} {l : List Int} : okI (x :: l) = true ↔ isI64 x ∧ okI l = true := by simp [okI]
theorem numsB_one (n : Int) : numsB [n] = numB n := by simp [numsB]
theorem numsB_le {l : List Int} (h : okI l = true) (k : Nat) (hk : 9 * l.length ≤ k) : (numsB l).length ≤ k := Nat.le_trans (numsB_len h) hk
theorem yesB_len (b : Bool) : (yesB b).length ≤ 9 := by cases b <;> exact (numB_len (by decide)).2
theorem MsBox.keep {W W' : World} {b p : Nat} {m : MsgD} {A8 A12 A16 : Option Addr} {c8 c12 c16 : Nat} (h : MsBox W b m A8 c8 A12 c12 A16 c16) (hk : KeepS (fun i => i = p) W W') (hb : b ≠ p) : MsBox W' b m A8 c8 A12 c12 A16 c16 := (hk.block b (Array.getElem?_eq_some_iff.1 h).1 hb).trans h
theorem mayTr_e {x : TrD} (h : mayTr x = true) : mayE x.f1.f0 x.f1.f1 x.f1.f2 x.f1.f3 = true := by unfold mayTr at h; exact (Bool.and_eq_true _ _ ▸ h).2
theorem trB_len {x : TrD} (ho : isI64 x.f0 ∧ okE x.f1.f0 x.f1.f1 x.f1.f2 x.f1.f3 = true) (hm : mayE x.f1.f0 x.f1.f1 x.f1.f2 x.f1.f3 = true) : (trB x).length ≤ 25009 := by
 have h1 := (numB_len ho.1).2
 have h2 := entB_len ho.2 hm
 unfold trB
 rw [List.length_append]
 omega
def TrL (w0 w : World) (p : Nat) (l0 : List Int) (l : List TrD) (i : Value) (wr : World) : Prop := ∃ j : Nat, i = .int .i64 j ∧ j ≤ l.length ∧ IsPen wr w0.heap.size p (l0 ++ (l.take j).flatMap trB) ∧ Below w0.heap.size w0 wr ∧ KeepS (fun i => i = p) w wr
set_option maxHeartbeats 1000000 in
theorem penYes_is {w0 w : World} {p : Nat} {l0 : List Int} (hI : IsPen w w0.heap.size p l0) (hB : Below w0.heap.size w0 w) (hp : w0.heap.size ≤ p) (q : Bool) (hs : l0.length + 9 < 140737488355328) :
  Calls Tryz.prog 99 #[.pointer (some ⟨p, 0, none⟩), .bool q] w fun e w' => PenP w0 w p (l0 ++ yesB q) e w' := by
 have HN := Lib.hid (fun n (hn : isI64 n) => nums_is (hI.below ((Below.refl _ w).alloc (Nat.le_refl _) (.cells #[.int .i64 n] 2))) (hB.alloc hB.size _) hp _ 1 [n] (C_lit w [n] (by simp)) (by simp [okI, hn]) (by simpa using hs))
 have HKK := Lib.hid (fun n : Int => (KeepS.refl (fun i => i = p) w).alloc (.cells #[.int .i64 n] 2))
 clear hI hB hp hs
 cases q with
 | true =>
  go_enter Tryz.func99, Tryz.ntmps99
  go_wp2_with fail
  refine (HN.out 1 (by decide)).mono ?_
  rintro e w1 ⟨rfl, h1, h2, h3⟩
  have HF := Lib.hid (show PenP w0 w p (l0 ++ yesB true) (.returned (.tuple #[])) w1 from ⟨rfl, by rw [numsB_one] at h1; exact h1, h2, (HKK.out 1).trans h3⟩)
  clear h1 h2 h3
  go_wp2_with fail
  go_end0
  exact HF.out
 | false =>
  go_enter Tryz.func99, Tryz.ntmps99
  go_wp2_with fail
  refine (HN.out 0 (by decide)).mono ?_
  rintro e w1 ⟨rfl, h1, h2, h3⟩
  have HF := Lib.hid (show PenP w0 w p (l0 ++ yesB false) (.returned (.tuple #[])) w1 from ⟨rfl, by rw [numsB_one] at h1; exact h1, h2, (HKK.out 0).trans h3⟩)
  clear h1 h2 h3
  go_wp2_with fail
  go_end0
  exact HF.out
set_option maxHeartbeats 4000000 in
theorem penMsg1 {w0 w : World} {p : Nat} {l0 : List Int} (hI : IsPen w w0.heap.size p l0) (hB : Below w0.heap.size w0 w) (hp : w0.heap.size ≤ p) (m : MsgD) {A8 A12 A16 : Option Addr} {c8 c12 c16 : Nat} (hm : MsgC w0 m A8 c8 A12 c12 A16 c16) (ho : OkM m) (hk : m.f0 = 1) (hs : l0.length + 200000000 < 140737488355328) :
  Calls Tryz.prog 50 #[.pointer (some ⟨p, 0, none⟩), .agg #[.int .i64 m.f0, .int .i64 m.f1, .int .i64 m.f2, .int .i64 m.f3, .int .i64 m.f4, .int .i64 m.f5, .int .i64 m.f6, .bool m.f7, .slice A8 m.f8.length c8, .int .i64 m.f9.f0, .int .i64 m.f9.f1, .int .i64 m.f9.f2, .slice A12 m.f9.f3.length c12, .int .i64 m.f10.f0, .int .i64 m.f10.f1, .int .i64 m.f10.f2, .slice A16 m.f10.f3.length c16]] w fun e w' => PenP w0 w p (l0 ++ msgB m) e w' := by
 have HO := Lib.hid ho; have HM := Lib.hid hm; have HP := Lib.hid hp; have HS := Lib.hid hs; have HL0 := Lib.hid (show l0.length ≤ l0.length + 0 from Nat.le_refl _)
 have HNE := Lib.hid (show w.heap.size ≠ p by have := hI.lt; omega)
 have H0 := Lib.hid (hI.below ((Below.refl _ w).alloc (Nat.le_refl _) (.cells #[.int .i64 m.f0, .int .i64 m.f1, .int .i64 m.f2, .int .i64 m.f3, .int .i64 m.f4, .int .i64 m.f5, .int .i64 m.f6, .bool m.f7, .slice A8 m.f8.length c8, .int .i64 m.f9.f0, .int .i64 m.f9.f1, .int .i64 m.f9.f2, .slice A12 m.f9.f3.length c12, .int .i64 m.f10.f0, .int .i64 m.f10.f1, .int .i64 m.f10.f2, .slice A16 m.f10.f3.length c16] 34))); have HB0 := Lib.hid (hB.alloc hB.size (.cells #[.int .i64 m.f0, .int .i64 m.f1, .int .i64 m.f2, .int .i64 m.f3, .int .i64 m.f4, .int .i64 m.f5, .int .i64 m.f6, .bool m.f7, .slice A8 m.f8.length c8, .int .i64 m.f9.f0, .int .i64 m.f9.f1, .int .i64 m.f9.f2, .slice A12 m.f9.f3.length c12, .int .i64 m.f10.f0, .int .i64 m.f10.f1, .int .i64 m.f10.f2, .slice A16 m.f10.f3.length c16] 34)); have HK0 := Lib.hid ((KeepS.refl (fun i => i = p) w).alloc (.cells #[.int .i64 m.f0, .int .i64 m.f1, .int .i64 m.f2, .int .i64 m.f3, .int .i64 m.f4, .int .i64 m.f5, .int .i64 m.f6, .bool m.f7, .slice A8 m.f8.length c8, .int .i64 m.f9.f0, .int .i64 m.f9.f1, .int .i64 m.f9.f2, .slice A12 m.f9.f3.length c12, .int .i64 m.f10.f0, .int .i64 m.f10.f1, .int .i64 m.f10.f2, .slice A16 m.f10.f3.length c16] 34))
 have HX0 := Lib.hid (show MsBox (w.alloc (.cells #[.int .i64 m.f0, .int .i64 m.f1, .int .i64 m.f2, .int .i64 m.f3, .int .i64 m.f4, .int .i64 m.f5, .int .i64 m.f6, .bool m.f7, .slice A8 m.f8.length c8, .int .i64 m.f9.f0, .int .i64 m.f9.f1, .int .i64 m.f9.f2, .slice A12 m.f9.f3.length c12, .int .i64 m.f10.f0, .int .i64 m.f10.f1, .int .i64 m.f10.f2, .slice A16 m.f10.f3.length c16] 34)) w.heap.size m A8 c8 A12 c12 A16 c16 from heap_alloc_new w _)
 have HT3 := Lib.hid (show okI [m.f3, m.f4, m.f5] = true by have := ho.t; simp only [okI_cons] at this ⊢; exact ⟨this.1, this.2.1, this.2.2.1, rfl⟩)
 have q1 : (m.f0 == 1) = true := by rw [hk]; rfl
 have HTB := Lib.hid (show msgB m = numsB [m.f0, m.f1, m.f2] ++ (numsB [m.f3, m.f4, m.f5]) by unfold msgB tailB; simp only [hk]; rfl)
 clear hI hB hp hs ho hm hk
 go_enter Tryz.func50, Tryz.ntmps50
 go_upto_region 1 with fail
 obtain ⟨v0, hv⟩ : ∃ v, w.alloc (.cells #[.int .i64 m.f0, .int .i64 m.f1, .int .i64 m.f2, .int .i64 m.f3, .int .i64 m.f4, .int .i64 m.f5, .int .i64 m.f6, .bool m.f7, .slice A8 m.f8.length c8, .int .i64 m.f9.f0, .int .i64 m.f9.f1, .int .i64 m.f9.f2, .slice A12 m.f9.f3.length c12, .int .i64 m.f10.f0, .int .i64 m.f10.f1, .int .i64 m.f10.f2, .slice A16 m.f10.f3.length c16] 34) = v := ⟨_, rfl⟩
 obtain ⟨b, hb⟩ : ∃ b, w.heap.size = b := ⟨_, rfl⟩
 rw [hv] at H0 HB0 HK0 HX0 ⊢
 rw [hb] at HNE HX0 ⊢
 clear hv hb
 obtain ⟨la0, hl0⟩ : ∃ la, l0 = la := ⟨_, rfl⟩
 have HQ0 := Lib.hid hl0
 have HLZ := Lib.hid (show la0.length ≤ l0.length + 0 by rw [← hl0]; exact Nat.le_refl _)
 rw [hl0] at H0
 clear hl0 HL0
 have HL0 := HLZ
 have HD := Lib.hid (show Below v0.heap.size v0 v0.drew from (Below.refl _ _).drew)
 have Hd := Lib.hid (H0.out.below HD.out); have HBd := Lib.hid HB0.out.drew; have HKd := Lib.hid HK0.out.drew; have HXd := Lib.hid (show MsBox v0.drew b m A8 c8 A12 c12 A16 c16 from HX0.out)
 clear HD
 obtain ⟨d0, d1, d2, d3, d4, d5, d6, d7, d8, d9, d10, d11, d12, d13, d14, d15, d16⟩ := HXd.out.cell
 refine start_ (n := 11) (S := fun w' => w'.cell? ⟨b, 0, none⟩ = some (.int .i64 m.f0) ∧ w'.cell? ⟨b, 1, none⟩ = some (.int .i64 m.f1) ∧ w'.cell? ⟨b, 2, none⟩ = some (.int .i64 m.f2)) (ds := []) #[false, false, false, false, false, false, false, false, false, false, false] (by kernel_rfl) rfl rfl ⟨d0, d1, d2⟩ (fun hHeld => ?_)
 obtain ⟨u, hu⟩ : ∃ u, v0.drew = u := ⟨_, rfl⟩
 rw [hu] at Hd HBd HKd HXd hHeld ⊢
 clear hu d0 d1 d2 d3 d4 d5 d6 d7 d8 d9 d10 d11 d12 d13 d14 d15 d16
 refine pure_ (i := 0) (N := some 6) (v := ?_) (a' := ?_) #[true, false, false, false, false, false, false, false, false, false, false] rfl rfl (by kernel_rfl) (fun _ _ _ h => h) (Or.inl ⟨by rfl, ?_⟩) ?_ ?_
 rotate_left
 ·intro w'
  go_simp
  try with_reducible rfl
 rotate_left
 ·simp only [Act.put, sq1, sq2, sq3, i64_w, i32_w]
  rfl
 refine pure_ (i := 1) (N := some 7) (v := ?_) (a' := ?_) #[true, true, false, false, false, false, false, false, false, false, false] rfl rfl (by kernel_rfl) (fun _ _ _ h => h) (Or.inl ⟨by rfl, ?_⟩) ?_ ?_
 rotate_left
 ·intro w'
  go_simp
  try with_reducible rfl
 rotate_left
 ·simp only [Act.put, sq1, sq2, sq3, i64_w, i32_w]
  rfl
 refine pure_ (i := 2) (N := some 8) (v := ?_) (a' := ?_) #[true, true, true, false, false, false, false, false, false, false, false] rfl rfl (by kernel_rfl) (fun _ _ _ h => h) (Or.inl ⟨by rfl, ?_⟩) ?_ ?_
 rotate_left
 ·intro w'
  go_simp
  try with_reducible rfl
 rotate_left
 ·simp only [Act.put, sq1, sq2, sq3, i64_w, i32_w]
  rfl
 refine pure_ (i := 3) (N := some 9) (v := ?_) (a' := ?_) #[true, true, true, true, false, false, false, false, false, false, false] rfl rfl (by kernel_rfl) (fun _ _ _ h => h) (Or.inl ⟨by rfl, ?_⟩) ?_ ?_
 rotate_left
 ·intro w'
  go_simp
  try with_reducible rfl
 rotate_left
 ·simp only [Act.put, sq1, sq2, sq3, i64_w, i32_w]
  rfl
 refine take_ (i := 4) (N := some 10) (v := ?_) (a' := ?_) #[true, true, true, true, true, false, false, false, false, false, false] rfl rfl (by kernel_rfl) (fun _ _ _ h => h) (Or.inl ⟨by rfl, ?_⟩) hHeld ?_ ?_
 rotate_left
 ·intro w' hS
  obtain ⟨x0, x1, x2⟩ := hS
  go_simp
  try with_reducible rfl
 rotate_left
 ·simp only [Act.put, sq1, sq2, sq3, i64_w, i32_w]
  rfl
 refine pure_ (i := 5) (N := some 11) (v := ?_) (a' := ?_) #[true, true, true, true, true, true, false, false, false, false, false] rfl rfl (by kernel_rfl) (fun _ _ _ h => h) (Or.inl ⟨by rfl, ?_⟩) ?_ ?_
 rotate_left
 ·intro w'
  go_simp
  try with_reducible rfl
 rotate_left
 ·simp only [Act.put, sq1, sq2, sq3, i64_w, i32_w]
  rfl
 refine take_ (i := 6) (N := some 12) (v := ?_) (a' := ?_) #[true, true, true, true, true, true, true, false, false, false, false] rfl rfl (by kernel_rfl) (fun _ _ _ h => h) (Or.inl ⟨by rfl, ?_⟩) hHeld ?_ ?_
 rotate_left
 ·intro w' hS
  obtain ⟨x0, x1, x2⟩ := hS
  go_simp
  try with_reducible rfl
 rotate_left
 ·simp only [Act.put, sq1, sq2, sq3, i64_w, i32_w]
  rfl
 refine pure_ (i := 7) (N := some 13) (v := ?_) (a' := ?_) #[true, true, true, true, true, true, true, true, false, false, false] rfl rfl (by kernel_rfl) (fun _ _ _ h => h) (Or.inl ⟨by rfl, ?_⟩) ?_ ?_
 rotate_left
 ·intro w'
  go_simp
  try with_reducible rfl
 rotate_left
 ·simp only [Act.put, sq1, sq2, sq3, i64_w, i32_w]
  rfl
 refine take_ (i := 8) (N := some 14) (v := ?_) (a' := ?_) #[true, true, true, true, true, true, true, true, true, false, false] rfl rfl (by kernel_rfl) (fun _ _ _ h => h) (Or.inl ⟨by rfl, ?_⟩) hHeld ?_ ?_
 rotate_left
 ·intro w' hS
  obtain ⟨x0, x1, x2⟩ := hS
  go_simp
  try with_reducible rfl
 rotate_left
 ·simp only [Act.put, sq1, sq2, sq3, i64_w, i32_w]
  rfl
 refine one_ (i := 9) (N := some 15) #[true, true, true, true, true, true, true, true, true, true, false] rfl rfl (by kernel_rfl) (by decide) (fun K hK => ?_)
 refine value_ (w1 := ?_) (v := ?_) (by rfl) rfl ?_ ?_
 rotate_left 2
 ·go_simp
  constructor <;> rfl
 have hba := (Below.refl _ u).alloc (Nat.le_refl _) (.cells #[.int .i64 m.f0, .int .i64 m.f1, .int .i64 m.f2] 2)
 have HXe := Lib.hid (show MsBox (u.alloc (.cells #[.int .i64 m.f0, .int .i64 m.f1, .int .i64 m.f2] 2)) b m A8 c8 A12 c12 A16 c16 from HXd.out.below hba); have He := Lib.hid (Hd.out.below hba); have HBe := Lib.hid (HBd.out.alloc HBd.out.size (.cells #[.int .i64 m.f0, .int .i64 m.f1, .int .i64 m.f2] 2)); have HKe := Lib.hid (HKd.out.alloc (.cells #[.int .i64 m.f0, .int .i64 m.f1, .int .i64 m.f2] 2))
 clear hba
 obtain ⟨d0, d1, d2, d3, d4, d5, d6, d7, d8, d9, d10, d11, d12, d13, d14, d15, d16⟩ := HXe.out.cell
 refine hK.out _ _ ⟨d0, d1, d2⟩ (fun hHeld => ?_)
 clear hK K
 clear d0 d1 d2 d3 d4 d5 d6 d7 d8 d9 d10 d11 d12 d13 d14 d15 d16
 refine norm_ (a' := ?_) ?_ ?_
 rotate_left
 ·show Act.put _ (some 15) _ = _
  simp only [Act.put, sq1, sq2, sq3, i64_w, i32_w]
  rfl
 refine one_ (i := 10) (N := some 16) #[true, true, true, true, true, true, true, true, true, true, true] rfl rfl (by kernel_rfl) (by decide) (fun K hK => ?_)
 go_simp
 refine (nums_is He.out HBe.out HP.out _ 3 [m.f0, m.f1, m.f2] (C_lit u [m.f0, m.f1, m.f2] (by simp)) HO.out.h (by have := HS.out; have := HL0.out; simp only [List.length_cons, List.length_nil]; omega)).mono ?_
 rintro e v1 ⟨rfl, h1, h2, h3⟩
 obtain ⟨la1, hla⟩ : ∃ la, la0 ++ numsB [m.f0, m.f1, m.f2] = la := ⟨_, rfl⟩
 have HL1 := Lib.hid (show la1.length ≤ l0.length + 27 by rw [← hla]; have h8 := HL0.out; have h9 : (numsB [m.f0, m.f1, m.f2]).length ≤ 27 := numsB_le HO.out.h _ (by simp); simp only [List.length_append] at h9 ⊢; omega)
 have HQ1 := Lib.hid hla
 have H1 := Lib.hid (show IsPen v1 w0.heap.size p la1 by rw [← hla]; simpa only [List.append_assoc] using h1); have HB1 := Lib.hid h2; have HK1 := Lib.hid (HKe.out.trans h3); have HX1 := Lib.hid (HXe.out.keep h3 HNE.out)
 clear h1 h2 h3 hla
 obtain ⟨d0, d1, d2, d3, d4, d5, d6, d7, d8, d9, d10, d11, d12, d13, d14, d15, d16⟩ := HX1.out.cell
 refine hK.out _ _ ⟨d0, d1, d2⟩ (fun hHeld => ?_)
 clear hK K
 clear d0 d1 d2 d3 d4 d5 d6 d7 d8 d9 d10 d11 d12 d13 d14 d15 d16
 refine done_ (by kernel_rfl) ?_
 obtain ⟨d0, d1, d2, d3, d4, d5, d6, d7, d8, d9, d10, d11, d12, d13, d14, d15, d16⟩ := HX1.out.cell
 go_upto_region 4 with fail
 clear d0 d1 d2 d3 d4 d5 d6 d7 d8 d9 d10 d11 d12 d13 d14 d15 d16
 have HD := Lib.hid (show Below v1.heap.size v1 v1.drew from (Below.refl _ _).drew)
 have Hd := Lib.hid (H1.out.below HD.out); have HBd := Lib.hid HB1.out.drew; have HKd := Lib.hid HK1.out.drew; have HXd := Lib.hid (show MsBox v1.drew b m A8 c8 A12 c12 A16 c16 from HX1.out)
 clear HD
 obtain ⟨d0, d1, d2, d3, d4, d5, d6, d7, d8, d9, d10, d11, d12, d13, d14, d15, d16⟩ := HXd.out.cell
 refine start_ (n := 11) (S := fun w' => w'.cell? ⟨b, 3, none⟩ = some (.int .i64 m.f3) ∧ w'.cell? ⟨b, 4, none⟩ = some (.int .i64 m.f4) ∧ w'.cell? ⟨b, 5, none⟩ = some (.int .i64 m.f5)) (ds := []) #[false, false, false, false, false, false, false, false, false, false, false] (by kernel_rfl) rfl rfl ⟨d3, d4, d5⟩ (fun hHeld => ?_)
 obtain ⟨u, hu⟩ : ∃ u, v1.drew = u := ⟨_, rfl⟩
 rw [hu] at Hd HBd HKd HXd hHeld ⊢
 clear hu d0 d1 d2 d3 d4 d5 d6 d7 d8 d9 d10 d11 d12 d13 d14 d15 d16
 refine pure_ (i := 0) (N := some 21) (v := ?_) (a' := ?_) #[true, false, false, false, false, false, false, false, false, false, false] rfl rfl (by kernel_rfl) (fun _ _ _ h => h) (Or.inl ⟨by rfl, ?_⟩) ?_ ?_
 rotate_left
 ·intro w'
  go_simp
  try with_reducible rfl
 rotate_left
 ·simp only [Act.put, sq1, sq2, sq3, i64_w, i32_w]
  rfl
 refine pure_ (i := 1) (N := some 22) (v := ?_) (a' := ?_) #[true, true, false, false, false, false, false, false, false, false, false] rfl rfl (by kernel_rfl) (fun _ _ _ h => h) (Or.inl ⟨by rfl, ?_⟩) ?_ ?_
 rotate_left
 ·intro w'
  go_simp
  try with_reducible rfl
 rotate_left
 ·simp only [Act.put, sq1, sq2, sq3, i64_w, i32_w]
  rfl
 refine pure_ (i := 2) (N := some 23) (v := ?_) (a' := ?_) #[true, true, true, false, false, false, false, false, false, false, false] rfl rfl (by kernel_rfl) (fun _ _ _ h => h) (Or.inl ⟨by rfl, ?_⟩) ?_ ?_
 rotate_left
 ·intro w'
  go_simp
  try with_reducible rfl
 rotate_left
 ·simp only [Act.put, sq1, sq2, sq3, i64_w, i32_w]
  rfl
 refine pure_ (i := 3) (N := some 24) (v := ?_) (a' := ?_) #[true, true, true, true, false, false, false, false, false, false, false] rfl rfl (by kernel_rfl) (fun _ _ _ h => h) (Or.inl ⟨by rfl, ?_⟩) ?_ ?_
 rotate_left
 ·intro w'
  go_simp
  try with_reducible rfl
 rotate_left
 ·simp only [Act.put, sq1, sq2, sq3, i64_w, i32_w]
  rfl
 refine take_ (i := 4) (N := some 25) (v := ?_) (a' := ?_) #[true, true, true, true, true, false, false, false, false, false, false] rfl rfl (by kernel_rfl) (fun _ _ _ h => h) (Or.inl ⟨by rfl, ?_⟩) hHeld ?_ ?_
 rotate_left
 ·intro w' hS
  obtain ⟨x3, x4, x5⟩ := hS
  go_simp
  try with_reducible rfl
 rotate_left
 ·simp only [Act.put, sq1, sq2, sq3, i64_w, i32_w]
  rfl
 refine pure_ (i := 5) (N := some 26) (v := ?_) (a' := ?_) #[true, true, true, true, true, true, false, false, false, false, false] rfl rfl (by kernel_rfl) (fun _ _ _ h => h) (Or.inl ⟨by rfl, ?_⟩) ?_ ?_
 rotate_left
 ·intro w'
  go_simp
  try with_reducible rfl
 rotate_left
 ·simp only [Act.put, sq1, sq2, sq3, i64_w, i32_w]
  rfl
 refine take_ (i := 6) (N := some 27) (v := ?_) (a' := ?_) #[true, true, true, true, true, true, true, false, false, false, false] rfl rfl (by kernel_rfl) (fun _ _ _ h => h) (Or.inl ⟨by rfl, ?_⟩) hHeld ?_ ?_
 rotate_left
 ·intro w' hS
  obtain ⟨x3, x4, x5⟩ := hS
  go_simp
  try with_reducible rfl
 rotate_left
 ·simp only [Act.put, sq1, sq2, sq3, i64_w, i32_w]
  rfl
 refine pure_ (i := 7) (N := some 28) (v := ?_) (a' := ?_) #[true, true, true, true, true, true, true, true, false, false, false] rfl rfl (by kernel_rfl) (fun _ _ _ h => h) (Or.inl ⟨by rfl, ?_⟩) ?_ ?_
 rotate_left
 ·intro w'
  go_simp
  try with_reducible rfl
 rotate_left
 ·simp only [Act.put, sq1, sq2, sq3, i64_w, i32_w]
  rfl
 refine take_ (i := 8) (N := some 29) (v := ?_) (a' := ?_) #[true, true, true, true, true, true, true, true, true, false, false] rfl rfl (by kernel_rfl) (fun _ _ _ h => h) (Or.inl ⟨by rfl, ?_⟩) hHeld ?_ ?_
 rotate_left
 ·intro w' hS
  obtain ⟨x3, x4, x5⟩ := hS
  go_simp
  try with_reducible rfl
 rotate_left
 ·simp only [Act.put, sq1, sq2, sq3, i64_w, i32_w]
  rfl
 refine one_ (i := 9) (N := some 30) #[true, true, true, true, true, true, true, true, true, true, false] rfl rfl (by kernel_rfl) (by decide) (fun K hK => ?_)
 refine value_ (w1 := ?_) (v := ?_) (by rfl) rfl ?_ ?_
 rotate_left 2
 ·go_simp
  constructor <;> rfl
 have hba := (Below.refl _ u).alloc (Nat.le_refl _) (.cells #[.int .i64 m.f3, .int .i64 m.f4, .int .i64 m.f5] 2)
 have HXe := Lib.hid (show MsBox (u.alloc (.cells #[.int .i64 m.f3, .int .i64 m.f4, .int .i64 m.f5] 2)) b m A8 c8 A12 c12 A16 c16 from HXd.out.below hba); have He := Lib.hid (Hd.out.below hba); have HBe := Lib.hid (HBd.out.alloc HBd.out.size (.cells #[.int .i64 m.f3, .int .i64 m.f4, .int .i64 m.f5] 2)); have HKe := Lib.hid (HKd.out.alloc (.cells #[.int .i64 m.f3, .int .i64 m.f4, .int .i64 m.f5] 2))
 clear hba
 obtain ⟨d0, d1, d2, d3, d4, d5, d6, d7, d8, d9, d10, d11, d12, d13, d14, d15, d16⟩ := HXe.out.cell
 refine hK.out _ _ ⟨d3, d4, d5⟩ (fun hHeld => ?_)
 clear hK K
 clear d0 d1 d2 d3 d4 d5 d6 d7 d8 d9 d10 d11 d12 d13 d14 d15 d16
 refine norm_ (a' := ?_) ?_ ?_
 rotate_left
 ·show Act.put _ (some 30) _ = _
  simp only [Act.put, sq1, sq2, sq3, i64_w, i32_w]
  rfl
 refine one_ (i := 10) (N := some 31) #[true, true, true, true, true, true, true, true, true, true, true] rfl rfl (by kernel_rfl) (by decide) (fun K hK => ?_)
 go_simp
 refine (nums_is He.out HBe.out HP.out _ 3 [m.f3, m.f4, m.f5] (C_lit u [m.f3, m.f4, m.f5] (by simp)) HT3.out (by have := HS.out; have := HL1.out; simp only [List.length_cons, List.length_nil]; omega)).mono ?_
 rintro e v2 ⟨rfl, h1, h2, h3⟩
 obtain ⟨la2, hla⟩ : ∃ la, la1 ++ numsB [m.f3, m.f4, m.f5] = la := ⟨_, rfl⟩
 have HL2 := Lib.hid (show la2.length ≤ l0.length + 54 by rw [← hla]; have h8 := HL1.out; have h9 : (numsB [m.f3, m.f4, m.f5]).length ≤ 27 := numsB_le HT3.out _ (by simp); simp only [List.length_append] at h9 ⊢; omega)
 have HQ2 := Lib.hid hla
 have H2 := Lib.hid (show IsPen v2 w0.heap.size p la2 by rw [← hla]; simpa only [List.append_assoc] using h1); have HB2 := Lib.hid h2; have HK2 := Lib.hid (HKe.out.trans h3); have HX2 := Lib.hid (HXe.out.keep h3 HNE.out)
 clear h1 h2 h3 hla
 obtain ⟨d0, d1, d2, d3, d4, d5, d6, d7, d8, d9, d10, d11, d12, d13, d14, d15, d16⟩ := HX2.out.cell
 refine hK.out _ _ ⟨d3, d4, d5⟩ (fun hHeld => ?_)
 clear hK K
 clear d0 d1 d2 d3 d4 d5 d6 d7 d8 d9 d10 d11 d12 d13 d14 d15 d16
 refine done_ (by kernel_rfl) ?_
 have HF := Lib.hid (show IsPen v2 w0.heap.size p (l0 ++ msgB m) by
  have h1 := H2.out
  rw [← HQ2.out, ← HQ1.out, ← HQ0.out] at h1
  rw [HTB.out]
  simpa only [List.append_assoc, numsB_one] using h1)
 go_wp2_with fail
 go_end0
 exact ⟨rfl, HF.out, HB2.out, HK2.out⟩
set_option maxHeartbeats 4000000 in
theorem penMsg2 {w0 w : World} {p : Nat} {l0 : List Int} (hI : IsPen w w0.heap.size p l0) (hB : Below w0.heap.size w0 w) (hp : w0.heap.size ≤ p) (m : MsgD) {A8 A12 A16 : Option Addr} {c8 c12 c16 : Nat} (hm : MsgC w0 m A8 c8 A12 c12 A16 c16) (ho : OkM m) (hk : m.f0 = 2) (hs : l0.length + 200000000 < 140737488355328) :
  Calls Tryz.prog 50 #[.pointer (some ⟨p, 0, none⟩), .agg #[.int .i64 m.f0, .int .i64 m.f1, .int .i64 m.f2, .int .i64 m.f3, .int .i64 m.f4, .int .i64 m.f5, .int .i64 m.f6, .bool m.f7, .slice A8 m.f8.length c8, .int .i64 m.f9.f0, .int .i64 m.f9.f1, .int .i64 m.f9.f2, .slice A12 m.f9.f3.length c12, .int .i64 m.f10.f0, .int .i64 m.f10.f1, .int .i64 m.f10.f2, .slice A16 m.f10.f3.length c16]] w fun e w' => PenP w0 w p (l0 ++ msgB m) e w' := by
 have HO := Lib.hid ho; have HM := Lib.hid hm; have HP := Lib.hid hp; have HS := Lib.hid hs; have HL0 := Lib.hid (show l0.length ≤ l0.length + 0 from Nat.le_refl _)
 have HNE := Lib.hid (show w.heap.size ≠ p by have := hI.lt; omega)
 have H0 := Lib.hid (hI.below ((Below.refl _ w).alloc (Nat.le_refl _) (.cells #[.int .i64 m.f0, .int .i64 m.f1, .int .i64 m.f2, .int .i64 m.f3, .int .i64 m.f4, .int .i64 m.f5, .int .i64 m.f6, .bool m.f7, .slice A8 m.f8.length c8, .int .i64 m.f9.f0, .int .i64 m.f9.f1, .int .i64 m.f9.f2, .slice A12 m.f9.f3.length c12, .int .i64 m.f10.f0, .int .i64 m.f10.f1, .int .i64 m.f10.f2, .slice A16 m.f10.f3.length c16] 34))); have HB0 := Lib.hid (hB.alloc hB.size (.cells #[.int .i64 m.f0, .int .i64 m.f1, .int .i64 m.f2, .int .i64 m.f3, .int .i64 m.f4, .int .i64 m.f5, .int .i64 m.f6, .bool m.f7, .slice A8 m.f8.length c8, .int .i64 m.f9.f0, .int .i64 m.f9.f1, .int .i64 m.f9.f2, .slice A12 m.f9.f3.length c12, .int .i64 m.f10.f0, .int .i64 m.f10.f1, .int .i64 m.f10.f2, .slice A16 m.f10.f3.length c16] 34)); have HK0 := Lib.hid ((KeepS.refl (fun i => i = p) w).alloc (.cells #[.int .i64 m.f0, .int .i64 m.f1, .int .i64 m.f2, .int .i64 m.f3, .int .i64 m.f4, .int .i64 m.f5, .int .i64 m.f6, .bool m.f7, .slice A8 m.f8.length c8, .int .i64 m.f9.f0, .int .i64 m.f9.f1, .int .i64 m.f9.f2, .slice A12 m.f9.f3.length c12, .int .i64 m.f10.f0, .int .i64 m.f10.f1, .int .i64 m.f10.f2, .slice A16 m.f10.f3.length c16] 34))
 have HX0 := Lib.hid (show MsBox (w.alloc (.cells #[.int .i64 m.f0, .int .i64 m.f1, .int .i64 m.f2, .int .i64 m.f3, .int .i64 m.f4, .int .i64 m.f5, .int .i64 m.f6, .bool m.f7, .slice A8 m.f8.length c8, .int .i64 m.f9.f0, .int .i64 m.f9.f1, .int .i64 m.f9.f2, .slice A12 m.f9.f3.length c12, .int .i64 m.f10.f0, .int .i64 m.f10.f1, .int .i64 m.f10.f2, .slice A16 m.f10.f3.length c16] 34)) w.heap.size m A8 c8 A12 c12 A16 c16 from heap_alloc_new w _)
 have HT1 := Lib.hid (show okI [m.f3] = true by have := ho.t; simp only [okI_cons] at this ⊢; exact ⟨this.1, rfl⟩)
 have q1 : (m.f0 == 1) = false := by rw [hk]; rfl
 have q2 : (m.f0 == 2) = true := by rw [hk]; rfl
 have HTB := Lib.hid (show msgB m = numsB [m.f0, m.f1, m.f2] ++ (numB m.f3 ++ yesB m.f7) by unfold msgB tailB; simp only [hk]; rfl)
 clear hI hB hp hs ho hm hk
 go_enter Tryz.func50, Tryz.ntmps50
 go_upto_region 1 with fail
 obtain ⟨v0, hv⟩ : ∃ v, w.alloc (.cells #[.int .i64 m.f0, .int .i64 m.f1, .int .i64 m.f2, .int .i64 m.f3, .int .i64 m.f4, .int .i64 m.f5, .int .i64 m.f6, .bool m.f7, .slice A8 m.f8.length c8, .int .i64 m.f9.f0, .int .i64 m.f9.f1, .int .i64 m.f9.f2, .slice A12 m.f9.f3.length c12, .int .i64 m.f10.f0, .int .i64 m.f10.f1, .int .i64 m.f10.f2, .slice A16 m.f10.f3.length c16] 34) = v := ⟨_, rfl⟩
 obtain ⟨b, hb⟩ : ∃ b, w.heap.size = b := ⟨_, rfl⟩
 rw [hv] at H0 HB0 HK0 HX0 ⊢
 rw [hb] at HNE HX0 ⊢
 clear hv hb
 obtain ⟨la0, hl0⟩ : ∃ la, l0 = la := ⟨_, rfl⟩
 have HQ0 := Lib.hid hl0
 have HLZ := Lib.hid (show la0.length ≤ l0.length + 0 by rw [← hl0]; exact Nat.le_refl _)
 rw [hl0] at H0
 clear hl0 HL0
 have HL0 := HLZ
 have HD := Lib.hid (show Below v0.heap.size v0 v0.drew from (Below.refl _ _).drew)
 have Hd := Lib.hid (H0.out.below HD.out); have HBd := Lib.hid HB0.out.drew; have HKd := Lib.hid HK0.out.drew; have HXd := Lib.hid (show MsBox v0.drew b m A8 c8 A12 c12 A16 c16 from HX0.out)
 clear HD
 obtain ⟨d0, d1, d2, d3, d4, d5, d6, d7, d8, d9, d10, d11, d12, d13, d14, d15, d16⟩ := HXd.out.cell
 refine start_ (n := 11) (S := fun w' => w'.cell? ⟨b, 0, none⟩ = some (.int .i64 m.f0) ∧ w'.cell? ⟨b, 1, none⟩ = some (.int .i64 m.f1) ∧ w'.cell? ⟨b, 2, none⟩ = some (.int .i64 m.f2)) (ds := []) #[false, false, false, false, false, false, false, false, false, false, false] (by kernel_rfl) rfl rfl ⟨d0, d1, d2⟩ (fun hHeld => ?_)
 obtain ⟨u, hu⟩ : ∃ u, v0.drew = u := ⟨_, rfl⟩
 rw [hu] at Hd HBd HKd HXd hHeld ⊢
 clear hu d0 d1 d2 d3 d4 d5 d6 d7 d8 d9 d10 d11 d12 d13 d14 d15 d16
 refine pure_ (i := 0) (N := some 6) (v := ?_) (a' := ?_) #[true, false, false, false, false, false, false, false, false, false, false] rfl rfl (by kernel_rfl) (fun _ _ _ h => h) (Or.inl ⟨by rfl, ?_⟩) ?_ ?_
 rotate_left
 ·intro w'
  go_simp
  try with_reducible rfl
 rotate_left
 ·simp only [Act.put, sq1, sq2, sq3, i64_w, i32_w]
  rfl
 refine pure_ (i := 1) (N := some 7) (v := ?_) (a' := ?_) #[true, true, false, false, false, false, false, false, false, false, false] rfl rfl (by kernel_rfl) (fun _ _ _ h => h) (Or.inl ⟨by rfl, ?_⟩) ?_ ?_
 rotate_left
 ·intro w'
  go_simp
  try with_reducible rfl
 rotate_left
 ·simp only [Act.put, sq1, sq2, sq3, i64_w, i32_w]
  rfl
 refine pure_ (i := 2) (N := some 8) (v := ?_) (a' := ?_) #[true, true, true, false, false, false, false, false, false, false, false] rfl rfl (by kernel_rfl) (fun _ _ _ h => h) (Or.inl ⟨by rfl, ?_⟩) ?_ ?_
 rotate_left
 ·intro w'
  go_simp
  try with_reducible rfl
 rotate_left
 ·simp only [Act.put, sq1, sq2, sq3, i64_w, i32_w]
  rfl
 refine pure_ (i := 3) (N := some 9) (v := ?_) (a' := ?_) #[true, true, true, true, false, false, false, false, false, false, false] rfl rfl (by kernel_rfl) (fun _ _ _ h => h) (Or.inl ⟨by rfl, ?_⟩) ?_ ?_
 rotate_left
 ·intro w'
  go_simp
  try with_reducible rfl
 rotate_left
 ·simp only [Act.put, sq1, sq2, sq3, i64_w, i32_w]
  rfl
 refine take_ (i := 4) (N := some 10) (v := ?_) (a' := ?_) #[true, true, true, true, true, false, false, false, false, false, false] rfl rfl (by kernel_rfl) (fun _ _ _ h => h) (Or.inl ⟨by rfl, ?_⟩) hHeld ?_ ?_
 rotate_left
 ·intro w' hS
  obtain ⟨x0, x1, x2⟩ := hS
  go_simp
  try with_reducible rfl
 rotate_left
 ·simp only [Act.put, sq1, sq2, sq3, i64_w, i32_w]
  rfl
 refine pure_ (i := 5) (N := some 11) (v := ?_) (a' := ?_) #[true, true, true, true, true, true, false, false, false, false, false] rfl rfl (by kernel_rfl) (fun _ _ _ h => h) (Or.inl ⟨by rfl, ?_⟩) ?_ ?_
 rotate_left
 ·intro w'
  go_simp
  try with_reducible rfl
 rotate_left
 ·simp only [Act.put, sq1, sq2, sq3, i64_w, i32_w]
  rfl
 refine take_ (i := 6) (N := some 12) (v := ?_) (a' := ?_) #[true, true, true, true, true, true, true, false, false, false, false] rfl rfl (by kernel_rfl) (fun _ _ _ h => h) (Or.inl ⟨by rfl, ?_⟩) hHeld ?_ ?_
 rotate_left
 ·intro w' hS
  obtain ⟨x0, x1, x2⟩ := hS
  go_simp
  try with_reducible rfl
 rotate_left
 ·simp only [Act.put, sq1, sq2, sq3, i64_w, i32_w]
  rfl
 refine pure_ (i := 7) (N := some 13) (v := ?_) (a' := ?_) #[true, true, true, true, true, true, true, true, false, false, false] rfl rfl (by kernel_rfl) (fun _ _ _ h => h) (Or.inl ⟨by rfl, ?_⟩) ?_ ?_
 rotate_left
 ·intro w'
  go_simp
  try with_reducible rfl
 rotate_left
 ·simp only [Act.put, sq1, sq2, sq3, i64_w, i32_w]
  rfl
 refine take_ (i := 8) (N := some 14) (v := ?_) (a' := ?_) #[true, true, true, true, true, true, true, true, true, false, false] rfl rfl (by kernel_rfl) (fun _ _ _ h => h) (Or.inl ⟨by rfl, ?_⟩) hHeld ?_ ?_
 rotate_left
 ·intro w' hS
  obtain ⟨x0, x1, x2⟩ := hS
  go_simp
  try with_reducible rfl
 rotate_left
 ·simp only [Act.put, sq1, sq2, sq3, i64_w, i32_w]
  rfl
 refine one_ (i := 9) (N := some 15) #[true, true, true, true, true, true, true, true, true, true, false] rfl rfl (by kernel_rfl) (by decide) (fun K hK => ?_)
 refine value_ (w1 := ?_) (v := ?_) (by rfl) rfl ?_ ?_
 rotate_left 2
 ·go_simp
  constructor <;> rfl
 have hba := (Below.refl _ u).alloc (Nat.le_refl _) (.cells #[.int .i64 m.f0, .int .i64 m.f1, .int .i64 m.f2] 2)
 have HXe := Lib.hid (show MsBox (u.alloc (.cells #[.int .i64 m.f0, .int .i64 m.f1, .int .i64 m.f2] 2)) b m A8 c8 A12 c12 A16 c16 from HXd.out.below hba); have He := Lib.hid (Hd.out.below hba); have HBe := Lib.hid (HBd.out.alloc HBd.out.size (.cells #[.int .i64 m.f0, .int .i64 m.f1, .int .i64 m.f2] 2)); have HKe := Lib.hid (HKd.out.alloc (.cells #[.int .i64 m.f0, .int .i64 m.f1, .int .i64 m.f2] 2))
 clear hba
 obtain ⟨d0, d1, d2, d3, d4, d5, d6, d7, d8, d9, d10, d11, d12, d13, d14, d15, d16⟩ := HXe.out.cell
 refine hK.out _ _ ⟨d0, d1, d2⟩ (fun hHeld => ?_)
 clear hK K
 clear d0 d1 d2 d3 d4 d5 d6 d7 d8 d9 d10 d11 d12 d13 d14 d15 d16
 refine norm_ (a' := ?_) ?_ ?_
 rotate_left
 ·show Act.put _ (some 15) _ = _
  simp only [Act.put, sq1, sq2, sq3, i64_w, i32_w]
  rfl
 refine one_ (i := 10) (N := some 16) #[true, true, true, true, true, true, true, true, true, true, true] rfl rfl (by kernel_rfl) (by decide) (fun K hK => ?_)
 go_simp
 refine (nums_is He.out HBe.out HP.out _ 3 [m.f0, m.f1, m.f2] (C_lit u [m.f0, m.f1, m.f2] (by simp)) HO.out.h (by have := HS.out; have := HL0.out; simp only [List.length_cons, List.length_nil]; omega)).mono ?_
 rintro e v1 ⟨rfl, h1, h2, h3⟩
 obtain ⟨la1, hla⟩ : ∃ la, la0 ++ numsB [m.f0, m.f1, m.f2] = la := ⟨_, rfl⟩
 have HL1 := Lib.hid (show la1.length ≤ l0.length + 27 by rw [← hla]; have h8 := HL0.out; have h9 : (numsB [m.f0, m.f1, m.f2]).length ≤ 27 := numsB_le HO.out.h _ (by simp); simp only [List.length_append] at h9 ⊢; omega)
 have HQ1 := Lib.hid hla
 have H1 := Lib.hid (show IsPen v1 w0.heap.size p la1 by rw [← hla]; simpa only [List.append_assoc] using h1); have HB1 := Lib.hid h2; have HK1 := Lib.hid (HKe.out.trans h3); have HX1 := Lib.hid (HXe.out.keep h3 HNE.out)
 clear h1 h2 h3 hla
 obtain ⟨d0, d1, d2, d3, d4, d5, d6, d7, d8, d9, d10, d11, d12, d13, d14, d15, d16⟩ := HX1.out.cell
 refine hK.out _ _ ⟨d0, d1, d2⟩ (fun hHeld => ?_)
 clear hK K
 clear d0 d1 d2 d3 d4 d5 d6 d7 d8 d9 d10 d11 d12 d13 d14 d15 d16
 refine done_ (by kernel_rfl) ?_
 obtain ⟨d0, d1, d2, d3, d4, d5, d6, d7, d8, d9, d10, d11, d12, d13, d14, d15, d16⟩ := HX1.out.cell
 go_upto_region 6 with fail
 clear d0 d1 d2 d3 d4 d5 d6 d7 d8 d9 d10 d11 d12 d13 d14 d15 d16
 have HD := Lib.hid (show Below v1.heap.size v1 v1.drew from (Below.refl _ _).drew)
 have Hd := Lib.hid (H1.out.below HD.out); have HBd := Lib.hid HB1.out.drew; have HKd := Lib.hid HK1.out.drew; have HXd := Lib.hid (show MsBox v1.drew b m A8 c8 A12 c12 A16 c16 from HX1.out)
 clear HD
 obtain ⟨d0, d1, d2, d3, d4, d5, d6, d7, d8, d9, d10, d11, d12, d13, d14, d15, d16⟩ := HXd.out.cell
 refine start_ (n := 7) (S := fun w' => w'.cell? ⟨b, 3, none⟩ = some (.int .i64 m.f3)) (ds := []) #[false, false, false, false, false, false, false] (by kernel_rfl) rfl rfl d3 (fun hHeld => ?_)
 obtain ⟨u, hu⟩ : ∃ u, v1.drew = u := ⟨_, rfl⟩
 rw [hu] at Hd HBd HKd HXd hHeld ⊢
 clear hu d0 d1 d2 d3 d4 d5 d6 d7 d8 d9 d10 d11 d12 d13 d14 d15 d16
 refine pure_ (i := 0) (N := some 34) (v := ?_) (a' := ?_) #[true, false, false, false, false, false, false] rfl rfl (by kernel_rfl) (fun _ _ _ h => h) (Or.inl ⟨by rfl, ?_⟩) ?_ ?_
 rotate_left
 ·intro w'
  go_simp
  try with_reducible rfl
 rotate_left
 ·simp only [Act.put, sq1, sq2, sq3, i64_w, i32_w]
  rfl
 refine pure_ (i := 1) (N := some 35) (v := ?_) (a' := ?_) #[true, true, false, false, false, false, false] rfl rfl (by kernel_rfl) (fun _ _ _ h => h) (Or.inl ⟨by rfl, ?_⟩) ?_ ?_
 rotate_left
 ·intro w'
  go_simp
  try with_reducible rfl
 rotate_left
 ·simp only [Act.put, sq1, sq2, sq3, i64_w, i32_w]
  rfl
 refine pure_ (i := 2) (N := some 36) (v := ?_) (a' := ?_) #[true, true, true, false, false, false, false] rfl rfl (by kernel_rfl) (fun _ _ _ h => h) (Or.inl ⟨by rfl, ?_⟩) ?_ ?_
 rotate_left
 ·intro w'
  go_simp
  try with_reducible rfl
 rotate_left
 ·simp only [Act.put, sq1, sq2, sq3, i64_w, i32_w]
  rfl
 refine pure_ (i := 3) (N := some 37) (v := ?_) (a' := ?_) #[true, true, true, true, false, false, false] rfl rfl (by kernel_rfl) (fun _ _ _ h => h) (Or.inl ⟨by rfl, ?_⟩) ?_ ?_
 rotate_left
 ·intro w'
  go_simp
  try with_reducible rfl
 rotate_left
 ·simp only [Act.put, sq1, sq2, sq3, i64_w, i32_w]
  rfl
 refine take_ (i := 4) (N := some 38) (v := ?_) (a' := ?_) #[true, true, true, true, true, false, false] rfl rfl (by kernel_rfl) (fun _ _ _ h => h) (Or.inl ⟨by rfl, ?_⟩) hHeld ?_ ?_
 rotate_left
 ·intro w' hS
  have x0 := hS
  go_simp
  try with_reducible rfl
 rotate_left
 ·simp only [Act.put, sq1, sq2, sq3, i64_w, i32_w]
  rfl
 refine one_ (i := 5) (N := some 39) #[true, true, true, true, true, true, false] rfl rfl (by kernel_rfl) (by decide) (fun K hK => ?_)
 refine value_ (w1 := ?_) (v := ?_) (by rfl) rfl ?_ ?_
 rotate_left 2
 ·go_simp
  constructor <;> rfl
 have hba := (Below.refl _ u).alloc (Nat.le_refl _) (.cells #[.int .i64 m.f3] 2)
 have HXe := Lib.hid (show MsBox (u.alloc (.cells #[.int .i64 m.f3] 2)) b m A8 c8 A12 c12 A16 c16 from HXd.out.below hba); have He := Lib.hid (Hd.out.below hba); have HBe := Lib.hid (HBd.out.alloc HBd.out.size (.cells #[.int .i64 m.f3] 2)); have HKe := Lib.hid (HKd.out.alloc (.cells #[.int .i64 m.f3] 2))
 clear hba
 obtain ⟨d0, d1, d2, d3, d4, d5, d6, d7, d8, d9, d10, d11, d12, d13, d14, d15, d16⟩ := HXe.out.cell
 refine hK.out _ _ d3 (fun hHeld => ?_)
 clear hK K
 clear d0 d1 d2 d3 d4 d5 d6 d7 d8 d9 d10 d11 d12 d13 d14 d15 d16
 refine norm_ (a' := ?_) ?_ ?_
 rotate_left
 ·show Act.put _ (some 39) _ = _
  simp only [Act.put, sq1, sq2, sq3, i64_w, i32_w]
  rfl
 refine one_ (i := 6) (N := some 40) #[true, true, true, true, true, true, true] rfl rfl (by kernel_rfl) (by decide) (fun K hK => ?_)
 go_simp
 refine (nums_is He.out HBe.out HP.out _ 1 [m.f3] (C_lit u [m.f3] (by simp)) HT1.out (by have := HS.out; have := HL1.out; simp only [List.length_cons, List.length_nil]; omega)).mono ?_
 rintro e v2 ⟨rfl, h1, h2, h3⟩
 obtain ⟨la2, hla⟩ : ∃ la, la1 ++ numsB [m.f3] = la := ⟨_, rfl⟩
 have HL2 := Lib.hid (show la2.length ≤ l0.length + 36 by rw [← hla]; have h8 := HL1.out; have h9 : (numsB [m.f3]).length ≤ 9 := numsB_le HT1.out _ (by simp); simp only [List.length_append] at h9 ⊢; omega)
 have HQ2 := Lib.hid hla
 have H2 := Lib.hid (show IsPen v2 w0.heap.size p la2 by rw [← hla]; simpa only [List.append_assoc] using h1); have HB2 := Lib.hid h2; have HK2 := Lib.hid (HKe.out.trans h3); have HX2 := Lib.hid (HXe.out.keep h3 HNE.out)
 clear h1 h2 h3 hla
 obtain ⟨d0, d1, d2, d3, d4, d5, d6, d7, d8, d9, d10, d11, d12, d13, d14, d15, d16⟩ := HX2.out.cell
 refine hK.out _ _ d3 (fun hHeld => ?_)
 clear hK K
 clear d0 d1 d2 d3 d4 d5 d6 d7 d8 d9 d10 d11 d12 d13 d14 d15 d16
 refine done_ (by kernel_rfl) ?_
 obtain ⟨d0, d1, d2, d3, d4, d5, d6, d7, d8, d9, d10, d11, d12, d13, d14, d15, d16⟩ := HX2.out.cell
 go_wp2_with fail
 refine (penYes_is H2.out HB2.out HP.out m.f7 (by have := HS.out; have := HL2.out; omega)).mono ?_
 rintro e v3 ⟨rfl, h1, h2, h3⟩
 obtain ⟨la3, hla⟩ : ∃ la, la2 ++ yesB m.f7 = la := ⟨_, rfl⟩
 have HL3 := Lib.hid (show la3.length ≤ l0.length + 45 by rw [← hla]; have h8 := HL2.out; have h9 : (yesB m.f7).length ≤ 9 := yesB_len _; simp only [List.length_append] at h9 ⊢; omega)
 have HQ3 := Lib.hid hla
 have H3 := Lib.hid (show IsPen v3 w0.heap.size p la3 by rw [← hla]; simpa only [List.append_assoc] using h1); have HB3 := Lib.hid h2; have HK3 := Lib.hid (HK2.out.trans h3); have HX3 := Lib.hid (HX2.out.keep h3 HNE.out)
 clear h1 h2 h3 hla
 clear d0 d1 d2 d3 d4 d5 d6 d7 d8 d9 d10 d11 d12 d13 d14 d15 d16
 have HF := Lib.hid (show IsPen v3 w0.heap.size p (l0 ++ msgB m) by
  have h1 := H3.out
  rw [← HQ3.out, ← HQ2.out, ← HQ1.out, ← HQ0.out] at h1
  rw [HTB.out]
  simpa only [List.append_assoc, numsB_one] using h1)
 go_wp2_with fail
 go_end0
 exact ⟨rfl, HF.out, HB3.out, HK3.out⟩
set_option maxHeartbeats 4000000 in
theorem penMsg3 {w0 w : World} {p : Nat} {l0 : List Int} (hI : IsPen w w0.heap.size p l0) (hB : Below w0.heap.size w0 w) (hp : w0.heap.size ≤ p) (m : MsgD) {A8 A12 A16 : Option Addr} {c8 c12 c16 : Nat} (hm : MsgC w0 m A8 c8 A12 c12 A16 c16) (ho : OkM m) (hk : m.f0 = 3) (hml : m.f8.all mayTr = true) (hl8 : m.f8.length ≤ 4096) (hs : l0.length + 200000000 < 140737488355328) :
  Calls Tryz.prog 50 #[.pointer (some ⟨p, 0, none⟩), .agg #[.int .i64 m.f0, .int .i64 m.f1, .int .i64 m.f2, .int .i64 m.f3, .int .i64 m.f4, .int .i64 m.f5, .int .i64 m.f6, .bool m.f7, .slice A8 m.f8.length c8, .int .i64 m.f9.f0, .int .i64 m.f9.f1, .int .i64 m.f9.f2, .slice A12 m.f9.f3.length c12, .int .i64 m.f10.f0, .int .i64 m.f10.f1, .int .i64 m.f10.f2, .slice A16 m.f10.f3.length c16]] w fun e w' => PenP w0 w p (l0 ++ msgB m) e w' := by
 have HO := Lib.hid ho; have HM := Lib.hid hm; have HP := Lib.hid hp; have HS := Lib.hid hs; have HL0 := Lib.hid (show l0.length ≤ l0.length + 0 from Nat.le_refl _)
 have HNE := Lib.hid (show w.heap.size ≠ p by have := hI.lt; omega)
 have H0 := Lib.hid (hI.below ((Below.refl _ w).alloc (Nat.le_refl _) (.cells #[.int .i64 m.f0, .int .i64 m.f1, .int .i64 m.f2, .int .i64 m.f3, .int .i64 m.f4, .int .i64 m.f5, .int .i64 m.f6, .bool m.f7, .slice A8 m.f8.length c8, .int .i64 m.f9.f0, .int .i64 m.f9.f1, .int .i64 m.f9.f2, .slice A12 m.f9.f3.length c12, .int .i64 m.f10.f0, .int .i64 m.f10.f1, .int .i64 m.f10.f2, .slice A16 m.f10.f3.length c16] 34))); have HB0 := Lib.hid (hB.alloc hB.size (.cells #[.int .i64 m.f0, .int .i64 m.f1, .int .i64 m.f2, .int .i64 m.f3, .int .i64 m.f4, .int .i64 m.f5, .int .i64 m.f6, .bool m.f7, .slice A8 m.f8.length c8, .int .i64 m.f9.f0, .int .i64 m.f9.f1, .int .i64 m.f9.f2, .slice A12 m.f9.f3.length c12, .int .i64 m.f10.f0, .int .i64 m.f10.f1, .int .i64 m.f10.f2, .slice A16 m.f10.f3.length c16] 34)); have HK0 := Lib.hid ((KeepS.refl (fun i => i = p) w).alloc (.cells #[.int .i64 m.f0, .int .i64 m.f1, .int .i64 m.f2, .int .i64 m.f3, .int .i64 m.f4, .int .i64 m.f5, .int .i64 m.f6, .bool m.f7, .slice A8 m.f8.length c8, .int .i64 m.f9.f0, .int .i64 m.f9.f1, .int .i64 m.f9.f2, .slice A12 m.f9.f3.length c12, .int .i64 m.f10.f0, .int .i64 m.f10.f1, .int .i64 m.f10.f2, .slice A16 m.f10.f3.length c16] 34))
 have HX0 := Lib.hid (show MsBox (w.alloc (.cells #[.int .i64 m.f0, .int .i64 m.f1, .int .i64 m.f2, .int .i64 m.f3, .int .i64 m.f4, .int .i64 m.f5, .int .i64 m.f6, .bool m.f7, .slice A8 m.f8.length c8, .int .i64 m.f9.f0, .int .i64 m.f9.f1, .int .i64 m.f9.f2, .slice A12 m.f9.f3.length c12, .int .i64 m.f10.f0, .int .i64 m.f10.f1, .int .i64 m.f10.f2, .slice A16 m.f10.f3.length c16] 34)) w.heap.size m A8 c8 A12 c12 A16 c16 from heap_alloc_new w _)
 have HML := Lib.hid hml; have HL8 := Lib.hid hl8; have hlm : m.f8.length ≤ 9223372036854775807 := hm.g8.2.1
 have HI8 := Lib.hid (show isI64 (m.f8.length : Int) by unfold isI64; omega)
 have q1 : (m.f0 == 1) = false := by rw [hk]; rfl
 have q2 : (m.f0 == 2) = false := by rw [hk]; rfl
 have q3 : (m.f0 == 3) = true := by rw [hk]; rfl
 have HTB := Lib.hid (show msgB m = numsB [m.f0, m.f1, m.f2] ++ (numsB [m.f3, m.f4, m.f5, m.f6] ++ numB m.f8.length ++ m.f8.flatMap trB) by unfold msgB tailB; simp only [hk]; rfl)
 clear hI hB hp hs ho hm hk hml hl8
 go_enter Tryz.func50, Tryz.ntmps50
 go_upto_region 1 with fail
 obtain ⟨v0, hv⟩ : ∃ v, w.alloc (.cells #[.int .i64 m.f0, .int .i64 m.f1, .int .i64 m.f2, .int .i64 m.f3, .int .i64 m.f4, .int .i64 m.f5, .int .i64 m.f6, .bool m.f7, .slice A8 m.f8.length c8, .int .i64 m.f9.f0, .int .i64 m.f9.f1, .int .i64 m.f9.f2, .slice A12 m.f9.f3.length c12, .int .i64 m.f10.f0, .int .i64 m.f10.f1, .int .i64 m.f10.f2, .slice A16 m.f10.f3.length c16] 34) = v := ⟨_, rfl⟩
 obtain ⟨b, hb⟩ : ∃ b, w.heap.size = b := ⟨_, rfl⟩
 rw [hv] at H0 HB0 HK0 HX0 ⊢
 rw [hb] at HNE HX0 ⊢
 clear hv hb
 obtain ⟨la0, hl0⟩ : ∃ la, l0 = la := ⟨_, rfl⟩
 have HQ0 := Lib.hid hl0
 have HLZ := Lib.hid (show la0.length ≤ l0.length + 0 by rw [← hl0]; exact Nat.le_refl _)
 rw [hl0] at H0
 clear hl0 HL0
 have HL0 := HLZ
 have HD := Lib.hid (show Below v0.heap.size v0 v0.drew from (Below.refl _ _).drew)
 have Hd := Lib.hid (H0.out.below HD.out); have HBd := Lib.hid HB0.out.drew; have HKd := Lib.hid HK0.out.drew; have HXd := Lib.hid (show MsBox v0.drew b m A8 c8 A12 c12 A16 c16 from HX0.out)
 clear HD
 obtain ⟨d0, d1, d2, d3, d4, d5, d6, d7, d8, d9, d10, d11, d12, d13, d14, d15, d16⟩ := HXd.out.cell
 refine start_ (n := 11) (S := fun w' => w'.cell? ⟨b, 0, none⟩ = some (.int .i64 m.f0) ∧ w'.cell? ⟨b, 1, none⟩ = some (.int .i64 m.f1) ∧ w'.cell? ⟨b, 2, none⟩ = some (.int .i64 m.f2)) (ds := []) #[false, false, false, false, false, false, false, false, false, false, false] (by kernel_rfl) rfl rfl ⟨d0, d1, d2⟩ (fun hHeld => ?_)
 obtain ⟨u, hu⟩ : ∃ u, v0.drew = u := ⟨_, rfl⟩
 rw [hu] at Hd HBd HKd HXd hHeld ⊢
 clear hu d0 d1 d2 d3 d4 d5 d6 d7 d8 d9 d10 d11 d12 d13 d14 d15 d16
 refine pure_ (i := 0) (N := some 6) (v := ?_) (a' := ?_) #[true, false, false, false, false, false, false, false, false, false, false] rfl rfl (by kernel_rfl) (fun _ _ _ h => h) (Or.inl ⟨by rfl, ?_⟩) ?_ ?_
 rotate_left
 ·intro w'
  go_simp
  try with_reducible rfl
 rotate_left
 ·simp only [Act.put, sq1, sq2, sq3, i64_w, i32_w]
  rfl
 refine pure_ (i := 1) (N := some 7) (v := ?_) (a' := ?_) #[true, true, false, false, false, false, false, false, false, false, false] rfl rfl (by kernel_rfl) (fun _ _ _ h => h) (Or.inl ⟨by rfl, ?_⟩) ?_ ?_
 rotate_left
 ·intro w'
  go_simp
  try with_reducible rfl
 rotate_left
 ·simp only [Act.put, sq1, sq2, sq3, i64_w, i32_w]
  rfl
 refine pure_ (i := 2) (N := some 8) (v := ?_) (a' := ?_) #[true, true, true, false, false, false, false, false, false, false, false] rfl rfl (by kernel_rfl) (fun _ _ _ h => h) (Or.inl ⟨by rfl, ?_⟩) ?_ ?_
 rotate_left
 ·intro w'
  go_simp
  try with_reducible rfl
 rotate_left
 ·simp only [Act.put, sq1, sq2, sq3, i64_w, i32_w]
  rfl
 refine pure_ (i := 3) (N := some 9) (v := ?_) (a' := ?_) #[true, true, true, true, false, false, false, false, false, false, false] rfl rfl (by kernel_rfl) (fun _ _ _ h => h) (Or.inl ⟨by rfl, ?_⟩) ?_ ?_
 rotate_left
 ·intro w'
  go_simp
  try with_reducible rfl
 rotate_left
 ·simp only [Act.put, sq1, sq2, sq3, i64_w, i32_w]
  rfl
 refine take_ (i := 4) (N := some 10) (v := ?_) (a' := ?_) #[true, true, true, true, true, false, false, false, false, false, false] rfl rfl (by kernel_rfl) (fun _ _ _ h => h) (Or.inl ⟨by rfl, ?_⟩) hHeld ?_ ?_
 rotate_left
 ·intro w' hS
  obtain ⟨x0, x1, x2⟩ := hS
  go_simp
  try with_reducible rfl
 rotate_left
 ·simp only [Act.put, sq1, sq2, sq3, i64_w, i32_w]
  rfl
 refine pure_ (i := 5) (N := some 11) (v := ?_) (a' := ?_) #[true, true, true, true, true, true, false, false, false, false, false] rfl rfl (by kernel_rfl) (fun _ _ _ h => h) (Or.inl ⟨by rfl, ?_⟩) ?_ ?_
 rotate_left
 ·intro w'
  go_simp
  try with_reducible rfl
 rotate_left
 ·simp only [Act.put, sq1, sq2, sq3, i64_w, i32_w]
  rfl
 refine take_ (i := 6) (N := some 12) (v := ?_) (a' := ?_) #[true, true, true, true, true, true, true, false, false, false, false] rfl rfl (by kernel_rfl) (fun _ _ _ h => h) (Or.inl ⟨by rfl, ?_⟩) hHeld ?_ ?_
 rotate_left
 ·intro w' hS
  obtain ⟨x0, x1, x2⟩ := hS
  go_simp
  try with_reducible rfl
 rotate_left
 ·simp only [Act.put, sq1, sq2, sq3, i64_w, i32_w]
  rfl
 refine pure_ (i := 7) (N := some 13) (v := ?_) (a' := ?_) #[true, true, true, true, true, true, true, true, false, false, false] rfl rfl (by kernel_rfl) (fun _ _ _ h => h) (Or.inl ⟨by rfl, ?_⟩) ?_ ?_
 rotate_left
 ·intro w'
  go_simp
  try with_reducible rfl
 rotate_left
 ·simp only [Act.put, sq1, sq2, sq3, i64_w, i32_w]
  rfl
 refine take_ (i := 8) (N := some 14) (v := ?_) (a' := ?_) #[true, true, true, true, true, true, true, true, true, false, false] rfl rfl (by kernel_rfl) (fun _ _ _ h => h) (Or.inl ⟨by rfl, ?_⟩) hHeld ?_ ?_
 rotate_left
 ·intro w' hS
  obtain ⟨x0, x1, x2⟩ := hS
  go_simp
  try with_reducible rfl
 rotate_left
 ·simp only [Act.put, sq1, sq2, sq3, i64_w, i32_w]
  rfl
 refine one_ (i := 9) (N := some 15) #[true, true, true, true, true, true, true, true, true, true, false] rfl rfl (by kernel_rfl) (by decide) (fun K hK => ?_)
 refine value_ (w1 := ?_) (v := ?_) (by rfl) rfl ?_ ?_
 rotate_left 2
 ·go_simp
  constructor <;> rfl
 have hba := (Below.refl _ u).alloc (Nat.le_refl _) (.cells #[.int .i64 m.f0, .int .i64 m.f1, .int .i64 m.f2] 2)
 have HXe := Lib.hid (show MsBox (u.alloc (.cells #[.int .i64 m.f0, .int .i64 m.f1, .int .i64 m.f2] 2)) b m A8 c8 A12 c12 A16 c16 from HXd.out.below hba); have He := Lib.hid (Hd.out.below hba); have HBe := Lib.hid (HBd.out.alloc HBd.out.size (.cells #[.int .i64 m.f0, .int .i64 m.f1, .int .i64 m.f2] 2)); have HKe := Lib.hid (HKd.out.alloc (.cells #[.int .i64 m.f0, .int .i64 m.f1, .int .i64 m.f2] 2))
 clear hba
 obtain ⟨d0, d1, d2, d3, d4, d5, d6, d7, d8, d9, d10, d11, d12, d13, d14, d15, d16⟩ := HXe.out.cell
 refine hK.out _ _ ⟨d0, d1, d2⟩ (fun hHeld => ?_)
 clear hK K
 clear d0 d1 d2 d3 d4 d5 d6 d7 d8 d9 d10 d11 d12 d13 d14 d15 d16
 refine norm_ (a' := ?_) ?_ ?_
 rotate_left
 ·show Act.put _ (some 15) _ = _
  simp only [Act.put, sq1, sq2, sq3, i64_w, i32_w]
  rfl
 refine one_ (i := 10) (N := some 16) #[true, true, true, true, true, true, true, true, true, true, true] rfl rfl (by kernel_rfl) (by decide) (fun K hK => ?_)
 go_simp
 refine (nums_is He.out HBe.out HP.out _ 3 [m.f0, m.f1, m.f2] (C_lit u [m.f0, m.f1, m.f2] (by simp)) HO.out.h (by have := HS.out; have := HL0.out; simp only [List.length_cons, List.length_nil]; omega)).mono ?_
 rintro e v1 ⟨rfl, h1, h2, h3⟩
 obtain ⟨la1, hla⟩ : ∃ la, la0 ++ numsB [m.f0, m.f1, m.f2] = la := ⟨_, rfl⟩
 have HL1 := Lib.hid (show la1.length ≤ l0.length + 27 by rw [← hla]; have h8 := HL0.out; have h9 : (numsB [m.f0, m.f1, m.f2]).length ≤ 27 := numsB_le HO.out.h _ (by simp); simp only [List.length_append] at h9 ⊢; omega)
 have HQ1 := Lib.hid hla
 have H1 := Lib.hid (show IsPen v1 w0.heap.size p la1 by rw [← hla]; simpa only [List.append_assoc] using h1); have HB1 := Lib.hid h2; have HK1 := Lib.hid (HKe.out.trans h3); have HX1 := Lib.hid (HXe.out.keep h3 HNE.out)
 clear h1 h2 h3 hla
 obtain ⟨d0, d1, d2, d3, d4, d5, d6, d7, d8, d9, d10, d11, d12, d13, d14, d15, d16⟩ := HX1.out.cell
 refine hK.out _ _ ⟨d0, d1, d2⟩ (fun hHeld => ?_)
 clear hK K
 clear d0 d1 d2 d3 d4 d5 d6 d7 d8 d9 d10 d11 d12 d13 d14 d15 d16
 refine done_ (by kernel_rfl) ?_
 obtain ⟨d0, d1, d2, d3, d4, d5, d6, d7, d8, d9, d10, d11, d12, d13, d14, d15, d16⟩ := HX1.out.cell
 go_upto_region 9 with fail
 clear d0 d1 d2 d3 d4 d5 d6 d7 d8 d9 d10 d11 d12 d13 d14 d15 d16
 have HD := Lib.hid (show Below v1.heap.size v1 v1.drew from (Below.refl _ _).drew)
 have Hd := Lib.hid (H1.out.below HD.out); have HBd := Lib.hid HB1.out.drew; have HKd := Lib.hid HK1.out.drew; have HXd := Lib.hid (show MsBox v1.drew b m A8 c8 A12 c12 A16 c16 from HX1.out)
 clear HD
 obtain ⟨d0, d1, d2, d3, d4, d5, d6, d7, d8, d9, d10, d11, d12, d13, d14, d15, d16⟩ := HXd.out.cell
 refine start_ (n := 13) (S := fun w' => w'.cell? ⟨b, 3, none⟩ = some (.int .i64 m.f3) ∧ w'.cell? ⟨b, 4, none⟩ = some (.int .i64 m.f4) ∧ w'.cell? ⟨b, 5, none⟩ = some (.int .i64 m.f5) ∧ w'.cell? ⟨b, 6, none⟩ = some (.int .i64 m.f6)) (ds := []) #[false, false, false, false, false, false, false, false, false, false, false, false, false] (by kernel_rfl) rfl rfl ⟨d3, d4, d5, d6⟩ (fun hHeld => ?_)
 obtain ⟨u, hu⟩ : ∃ u, v1.drew = u := ⟨_, rfl⟩
 rw [hu] at Hd HBd HKd HXd hHeld ⊢
 clear hu d0 d1 d2 d3 d4 d5 d6 d7 d8 d9 d10 d11 d12 d13 d14 d15 d16
 refine pure_ (i := 0) (N := some 47) (v := ?_) (a' := ?_) #[true, false, false, false, false, false, false, false, false, false, false, false, false] rfl rfl (by kernel_rfl) (fun _ _ _ h => h) (Or.inl ⟨by rfl, ?_⟩) ?_ ?_
 rotate_left
 ·intro w'
  go_simp
  try with_reducible rfl
 rotate_left
 ·simp only [Act.put, sq1, sq2, sq3, i64_w, i32_w]
  rfl
 refine pure_ (i := 1) (N := some 48) (v := ?_) (a' := ?_) #[true, true, false, false, false, false, false, false, false, false, false, false, false] rfl rfl (by kernel_rfl) (fun _ _ _ h => h) (Or.inl ⟨by rfl, ?_⟩) ?_ ?_
 rotate_left
 ·intro w'
  go_simp
  try with_reducible rfl
 rotate_left
 ·simp only [Act.put, sq1, sq2, sq3, i64_w, i32_w]
  rfl
 refine pure_ (i := 2) (N := some 49) (v := ?_) (a' := ?_) #[true, true, true, false, false, false, false, false, false, false, false, false, false] rfl rfl (by kernel_rfl) (fun _ _ _ h => h) (Or.inl ⟨by rfl, ?_⟩) ?_ ?_
 rotate_left
 ·intro w'
  go_simp
  try with_reducible rfl
 rotate_left
 ·simp only [Act.put, sq1, sq2, sq3, i64_w, i32_w]
  rfl
 refine pure_ (i := 3) (N := some 50) (v := ?_) (a' := ?_) #[true, true, true, true, false, false, false, false, false, false, false, false, false] rfl rfl (by kernel_rfl) (fun _ _ _ h => h) (Or.inl ⟨by rfl, ?_⟩) ?_ ?_
 rotate_left
 ·intro w'
  go_simp
  try with_reducible rfl
 rotate_left
 ·simp only [Act.put, sq1, sq2, sq3, i64_w, i32_w]
  rfl
 refine take_ (i := 4) (N := some 51) (v := ?_) (a' := ?_) #[true, true, true, true, true, false, false, false, false, false, false, false, false] rfl rfl (by kernel_rfl) (fun _ _ _ h => h) (Or.inl ⟨by rfl, ?_⟩) hHeld ?_ ?_
 rotate_left
 ·intro w' hS
  obtain ⟨x3, x4, x5, x6⟩ := hS
  go_simp
  try with_reducible rfl
 rotate_left
 ·simp only [Act.put, sq1, sq2, sq3, i64_w, i32_w]
  rfl
 refine pure_ (i := 5) (N := some 52) (v := ?_) (a' := ?_) #[true, true, true, true, true, true, false, false, false, false, false, false, false] rfl rfl (by kernel_rfl) (fun _ _ _ h => h) (Or.inl ⟨by rfl, ?_⟩) ?_ ?_
 rotate_left
 ·intro w'
  go_simp
  try with_reducible rfl
 rotate_left
 ·simp only [Act.put, sq1, sq2, sq3, i64_w, i32_w]
  rfl
 refine take_ (i := 6) (N := some 53) (v := ?_) (a' := ?_) #[true, true, true, true, true, true, true, false, false, false, false, false, false] rfl rfl (by kernel_rfl) (fun _ _ _ h => h) (Or.inl ⟨by rfl, ?_⟩) hHeld ?_ ?_
 rotate_left
 ·intro w' hS
  obtain ⟨x3, x4, x5, x6⟩ := hS
  go_simp
  try with_reducible rfl
 rotate_left
 ·simp only [Act.put, sq1, sq2, sq3, i64_w, i32_w]
  rfl
 refine pure_ (i := 7) (N := some 54) (v := ?_) (a' := ?_) #[true, true, true, true, true, true, true, true, false, false, false, false, false] rfl rfl (by kernel_rfl) (fun _ _ _ h => h) (Or.inl ⟨by rfl, ?_⟩) ?_ ?_
 rotate_left
 ·intro w'
  go_simp
  try with_reducible rfl
 rotate_left
 ·simp only [Act.put, sq1, sq2, sq3, i64_w, i32_w]
  rfl
 refine take_ (i := 8) (N := some 55) (v := ?_) (a' := ?_) #[true, true, true, true, true, true, true, true, true, false, false, false, false] rfl rfl (by kernel_rfl) (fun _ _ _ h => h) (Or.inl ⟨by rfl, ?_⟩) hHeld ?_ ?_
 rotate_left
 ·intro w' hS
  obtain ⟨x3, x4, x5, x6⟩ := hS
  go_simp
  try with_reducible rfl
 rotate_left
 ·simp only [Act.put, sq1, sq2, sq3, i64_w, i32_w]
  rfl
 refine pure_ (i := 9) (N := some 56) (v := ?_) (a' := ?_) #[true, true, true, true, true, true, true, true, true, true, false, false, false] rfl rfl (by kernel_rfl) (fun _ _ _ h => h) (Or.inl ⟨by rfl, ?_⟩) ?_ ?_
 rotate_left
 ·intro w'
  go_simp
  try with_reducible rfl
 rotate_left
 ·simp only [Act.put, sq1, sq2, sq3, i64_w, i32_w]
  rfl
 refine take_ (i := 10) (N := some 57) (v := ?_) (a' := ?_) #[true, true, true, true, true, true, true, true, true, true, true, false, false] rfl rfl (by kernel_rfl) (fun _ _ _ h => h) (Or.inl ⟨by rfl, ?_⟩) hHeld ?_ ?_
 rotate_left
 ·intro w' hS
  obtain ⟨x3, x4, x5, x6⟩ := hS
  go_simp
  try with_reducible rfl
 rotate_left
 ·simp only [Act.put, sq1, sq2, sq3, i64_w, i32_w]
  rfl
 refine one_ (i := 11) (N := some 58) #[true, true, true, true, true, true, true, true, true, true, true, true, false] rfl rfl (by kernel_rfl) (by decide) (fun K hK => ?_)
 refine value_ (w1 := ?_) (v := ?_) (by rfl) rfl ?_ ?_
 rotate_left 2
 ·go_simp
  constructor <;> rfl
 have hba := (Below.refl _ u).alloc (Nat.le_refl _) (.cells #[.int .i64 m.f3, .int .i64 m.f4, .int .i64 m.f5, .int .i64 m.f6] 2)
 have HXe := Lib.hid (show MsBox (u.alloc (.cells #[.int .i64 m.f3, .int .i64 m.f4, .int .i64 m.f5, .int .i64 m.f6] 2)) b m A8 c8 A12 c12 A16 c16 from HXd.out.below hba); have He := Lib.hid (Hd.out.below hba); have HBe := Lib.hid (HBd.out.alloc HBd.out.size (.cells #[.int .i64 m.f3, .int .i64 m.f4, .int .i64 m.f5, .int .i64 m.f6] 2)); have HKe := Lib.hid (HKd.out.alloc (.cells #[.int .i64 m.f3, .int .i64 m.f4, .int .i64 m.f5, .int .i64 m.f6] 2))
 clear hba
 obtain ⟨d0, d1, d2, d3, d4, d5, d6, d7, d8, d9, d10, d11, d12, d13, d14, d15, d16⟩ := HXe.out.cell
 refine hK.out _ _ ⟨d3, d4, d5, d6⟩ (fun hHeld => ?_)
 clear hK K
 clear d0 d1 d2 d3 d4 d5 d6 d7 d8 d9 d10 d11 d12 d13 d14 d15 d16
 refine norm_ (a' := ?_) ?_ ?_
 rotate_left
 ·show Act.put _ (some 58) _ = _
  simp only [Act.put, sq1, sq2, sq3, i64_w, i32_w]
  rfl
 refine one_ (i := 12) (N := some 59) #[true, true, true, true, true, true, true, true, true, true, true, true, true] rfl rfl (by kernel_rfl) (by decide) (fun K hK => ?_)
 go_simp
 refine (nums_is He.out HBe.out HP.out _ 4 [m.f3, m.f4, m.f5, m.f6] (C_lit u [m.f3, m.f4, m.f5, m.f6] (by simp)) HO.out.t (by have := HS.out; have := HL1.out; simp only [List.length_cons, List.length_nil]; omega)).mono ?_
 rintro e v2 ⟨rfl, h1, h2, h3⟩
 obtain ⟨la2, hla⟩ : ∃ la, la1 ++ numsB [m.f3, m.f4, m.f5, m.f6] = la := ⟨_, rfl⟩
 have HL2 := Lib.hid (show la2.length ≤ l0.length + 63 by rw [← hla]; have h8 := HL1.out; have h9 : (numsB [m.f3, m.f4, m.f5, m.f6]).length ≤ 36 := numsB_le HO.out.t _ (by simp); simp only [List.length_append] at h9 ⊢; omega)
 have HQ2 := Lib.hid hla
 have H2 := Lib.hid (show IsPen v2 w0.heap.size p la2 by rw [← hla]; simpa only [List.append_assoc] using h1); have HB2 := Lib.hid h2; have HK2 := Lib.hid (HKe.out.trans h3); have HX2 := Lib.hid (HXe.out.keep h3 HNE.out)
 clear h1 h2 h3 hla
 obtain ⟨d0, d1, d2, d3, d4, d5, d6, d7, d8, d9, d10, d11, d12, d13, d14, d15, d16⟩ := HX2.out.cell
 refine hK.out _ _ ⟨d3, d4, d5, d6⟩ (fun hHeld => ?_)
 clear hK K
 clear d0 d1 d2 d3 d4 d5 d6 d7 d8 d9 d10 d11 d12 d13 d14 d15 d16
 refine done_ (by kernel_rfl) ?_
 obtain ⟨d0, d1, d2, d3, d4, d5, d6, d7, d8, d9, d10, d11, d12, d13, d14, d15, d16⟩ := HX2.out.cell
 go_upto_region 10 with fail
 clear d0 d1 d2 d3 d4 d5 d6 d7 d8 d9 d10 d11 d12 d13 d14 d15 d16
 have HD := Lib.hid (show Below v2.heap.size v2 v2.drew from (Below.refl _ _).drew)
 have Hd := Lib.hid (H2.out.below HD.out); have HBd := Lib.hid HB2.out.drew; have HKd := Lib.hid HK2.out.drew; have HXd := Lib.hid (show MsBox v2.drew b m A8 c8 A12 c12 A16 c16 from HX2.out)
 clear HD
 obtain ⟨d0, d1, d2, d3, d4, d5, d6, d7, d8, d9, d10, d11, d12, d13, d14, d15, d16⟩ := HXd.out.cell
 refine start_ (n := 7) (S := fun w' => w'.cell? ⟨b, 8, none⟩ = some (.slice A8 m.f8.length c8)) (ds := []) #[false, false, false, false, false, false, false] (by kernel_rfl) rfl rfl d8 (fun hHeld => ?_)
 obtain ⟨u, hu⟩ : ∃ u, v2.drew = u := ⟨_, rfl⟩
 rw [hu] at Hd HBd HKd HXd hHeld ⊢
 clear hu d0 d1 d2 d3 d4 d5 d6 d7 d8 d9 d10 d11 d12 d13 d14 d15 d16
 refine pure_ (i := 0) (N := some 60) (v := ?_) (a' := ?_) #[true, false, false, false, false, false, false] rfl rfl (by kernel_rfl) (fun _ _ _ h => h) (Or.inl ⟨by rfl, ?_⟩) ?_ ?_
 rotate_left
 ·intro w'
  go_simp
  try with_reducible rfl
 rotate_left
 ·simp only [Act.put, sq1, sq2, sq3, i64_w, i32_w]
  rfl
 refine pure_ (i := 1) (N := some 61) (v := ?_) (a' := ?_) #[true, true, false, false, false, false, false] rfl rfl (by kernel_rfl) (fun _ _ _ h => h) (Or.inl ⟨by rfl, ?_⟩) ?_ ?_
 rotate_left
 ·intro w'
  go_simp
  try with_reducible rfl
 rotate_left
 ·simp only [Act.put, sq1, sq2, sq3, i64_w, i32_w]
  rfl
 refine pure_ (i := 2) (N := some 62) (v := ?_) (a' := ?_) #[true, true, true, false, false, false, false] rfl rfl (by kernel_rfl) (fun _ _ _ h => h) (Or.inl ⟨by rfl, ?_⟩) ?_ ?_
 rotate_left
 ·intro w'
  go_simp
  try with_reducible rfl
 rotate_left
 ·simp only [Act.put, sq1, sq2, sq3, i64_w, i32_w]
  rfl
 refine pure_ (i := 3) (N := some 63) (v := ?_) (a' := ?_) #[true, true, true, true, false, false, false] rfl rfl (by kernel_rfl) (fun _ _ _ h => h) (Or.inl ⟨by rfl, ?_⟩) ?_ ?_
 rotate_left
 ·intro w'
  go_simp
  try with_reducible rfl
 rotate_left
 ·simp only [Act.put, sq1, sq2, sq3, i64_w, i32_w]
  rfl
 refine take_ (i := 4) (N := some 64) (v := ?_) (a' := ?_) #[true, true, true, true, true, false, false] rfl rfl (by kernel_rfl) (fun _ _ _ h => h) (Or.inl ⟨by rfl, ?_⟩) hHeld ?_ ?_
 rotate_left
 ·intro w' hS
  have x0 := hS
  go_simp
  try with_reducible rfl
 rotate_left
 ·simp only [Act.put, sq1, sq2, sq3, i64_w, i32_w]
  rfl
 refine pure_ (i := 5) (N := some 65) (v := ?_) (a' := ?_) #[true, true, true, true, true, true, false] rfl rfl (by kernel_rfl) (fun _ _ _ h => h) (Or.inl ⟨by rfl, ?_⟩) ?_ ?_
 rotate_left
 ·intro w'
  go_simp
  try with_reducible rfl
 rotate_left
 ·simp only [Act.put, sq1, sq2, sq3, i64_w, i32_w]
  rfl
 refine one_ (i := 6) (N := some 66) #[true, true, true, true, true, true, true] rfl rfl (by kernel_rfl) (by decide) (fun K hK => ?_)
 go_simp
 refine (many_is Hd.out HBd.out HP.out m.f8.length HI8.out (by have := HS.out; have := HL2.out; omega)).mono ?_
 rintro e v3 ⟨rfl, h1, h2, h3⟩
 obtain ⟨la3, hla⟩ : ∃ la, la2 ++ numB m.f8.length = la := ⟨_, rfl⟩
 have HL3 := Lib.hid (show la3.length ≤ l0.length + 72 by rw [← hla]; have h8 := HL2.out; have h9 : (numB m.f8.length).length ≤ 9 := (numB_len HI8.out).2; simp only [List.length_append] at h9 ⊢; omega)
 have HQ3 := Lib.hid hla
 have H3 := Lib.hid (show IsPen v3 w0.heap.size p la3 by rw [← hla]; simpa only [List.append_assoc] using h1); have HB3 := Lib.hid h2; have HK3 := Lib.hid (HKd.out.trans h3); have HX3 := Lib.hid (HXd.out.keep h3 HNE.out)
 clear h1 h2 h3 hla
 obtain ⟨d0, d1, d2, d3, d4, d5, d6, d7, d8, d9, d10, d11, d12, d13, d14, d15, d16⟩ := HX3.out.cell
 refine hK.out _ _ d8 (fun hHeld => ?_)
 clear hK K
 clear d0 d1 d2 d3 d4 d5 d6 d7 d8 d9 d10 d11 d12 d13 d14 d15 d16
 refine done_ (by kernel_rfl) ?_
 obtain ⟨d0, d1, d2, d3, d4, d5, d6, d7, d8, d9, d10, d11, d12, d13, d14, d15, d16⟩ := HX3.out.cell
 go_wp2_with fail
 go_loopw [70] (fun i wr => TrL w0 w p la3 m.f8 i wr) (fun i _ => m.f8.length - (intOf i).toNat)
 case atStart => exact ⟨0, rfl, Nat.zero_le _, by simpa using H3.out, HB3.out, HK3.out⟩
 case round =>
  clear d0 d1 d2 d3 d4 d5 d6 d7 d8 d9 d10 d11 d12 d13 d14 d15 d16
  obtain ⟨j, rfl, hj, hI, hB, hK⟩ := hrel
  have HI := Lib.hid hI; have HB := Lib.hid hB; have HKj := Lib.hid hK
  clear hI hB hK
  by_cases hlt : j < m.f8.length
  ·obtain ⟨x, hx⟩ : ∃ x, m.f8[j]? = some x := ⟨_, List.getElem?_eq_getElem hlt⟩
   obtain ⟨ad, A4, c4, rfl, z0, z1, z2, z3, z4, hl, hX⟩ := tr_get HM.out.g8 hx
   have x0 := (HB.out.cell (World.block_lt_of_cell? _ _ z0)).trans z0
   have x1 := (HB.out.cell (World.block_lt_of_cell? _ _ z1)).trans z1
   have x2 := (HB.out.cell (World.block_lt_of_cell? _ _ z2)).trans z2
   have x3 := (HB.out.cell (World.block_lt_of_cell? _ _ z3)).trans z3
   have x4 := (HB.out.cell (World.block_lt_of_cell? _ _ z4)).trans z4
   clear z0 z1 z2 z3 z4
   have HXC := Lib.hid (show Kd.C G.k26 w0 A4 x.f1.f3.length x.f1.f3 from hX)
   have HX := Lib.hid (show m.f8.take (j + 1) = m.f8.take j ++ [x] by rw [List.take_add_one, hx]; rfl)
   have HOX := Lib.hid (HO.out.l x (List.mem_of_getElem? hx))
   have HMX := Lib.hid (mayTr_e (List.all_eq_true.1 HML.out x (List.mem_of_getElem? hx)))
   have HLJ := Lib.hid (show (la3 ++ (m.f8.take j).flatMap trB).length + 60000 < 140737488355328 by
    have h1 := flat_len trB 25009 (m.f8.take j) (fun y hy => trB_len (HO.out.l y (List.mem_of_mem_take hy)) (mayTr_e (List.all_eq_true.1 HML.out y (List.mem_of_mem_take hy))))
    have h2 := HL8.out; have h3 := HL3.out; have h4 := HS.out
    rw [List.length_take] at h1
    rw [List.length_append]
    omega)
   obtain ⟨lj, hlj⟩ : ∃ lj, la3 ++ (m.f8.take j).flatMap trB = lj := ⟨_, rfl⟩
   rw [hlj] at HI HLJ
   have HQJ := Lib.hid hlj
   have HI5 := Lib.hid (HI.out.below ((Below.refl _ wr).alloc (Nat.le_refl _) (.cells #[.int .i64 x.f0, .int .i64 x.f1.f0, .int .i64 x.f1.f1, .int .i64 x.f1.f2, .slice A4 x.f1.f3.length c4] 63))); have HB5 := Lib.hid (HB.out.alloc HB.out.size (.cells #[.int .i64 x.f0, .int .i64 x.f1.f0, .int .i64 x.f1.f1, .int .i64 x.f1.f2, .slice A4 x.f1.f3.length c4] 63)); have HK5 := Lib.hid (HKj.out.alloc (.cells #[.int .i64 x.f0, .int .i64 x.f1.f0, .int .i64 x.f1.f1, .int .i64 x.f1.f2, .slice A4 x.f1.f3.length c4] 63))
   have HY5 := Lib.hid (show (wr.alloc (.cells #[.int .i64 x.f0, .int .i64 x.f1.f0, .int .i64 x.f1.f1, .int .i64 x.f1.f2, .slice A4 x.f1.f3.length c4] 63)).heap[wr.heap.size]? = some (.cells #[.int .i64 x.f0, .int .i64 x.f1.f0, .int .i64 x.f1.f1, .int .i64 x.f1.f2, .slice A4 x.f1.f3.length c4] 63) from heap_alloc_new wr _)
   have HN5 := Lib.hid (show wr.heap.size ≠ p by have := HI.out.lt; omega)
   clear hx hl hX hlj
   go_upto_region 14 with fail
   clear x0 x1 x2 x3 x4
   obtain ⟨v, hv⟩ : ∃ v, wr.alloc (.cells #[.int .i64 x.f0, .int .i64 x.f1.f0, .int .i64 x.f1.f1, .int .i64 x.f1.f2, .slice A4 x.f1.f3.length c4] 63) = v := ⟨_, rfl⟩
   obtain ⟨g, hg⟩ : ∃ g, wr.heap.size = g := ⟨_, rfl⟩
   rw [hv] at HI5 HB5 HK5 HY5 ⊢
   rw [hg] at HY5 HN5 ⊢
   clear hv hg
   have HD := Lib.hid (show Below v.heap.size v v.drew from (Below.refl _ _).drew)
   have Hd := Lib.hid (HI5.out.below HD.out); have HBd := Lib.hid HB5.out.drew; have HKd := Lib.hid HK5.out.drew; have HYd := Lib.hid (show v.drew.heap[g]? = some (.cells #[.int .i64 x.f0, .int .i64 x.f1.f0, .int .i64 x.f1.f1, .int .i64 x.f1.f2, .slice A4 x.f1.f3.length c4] 63) from HY5.out)
   have y0 : v.drew.cell? ⟨g, 0, none⟩ = some (.int .i64 x.f0) := by simp [World.cell?, HYd.out]
   refine start_ (n := 7) (S := fun w' => w'.cell? ⟨g, 0, none⟩ = some (.int .i64 x.f0)) (ds := []) #[false, false, false, false, false, false, false] (by kernel_rfl) rfl rfl y0 (fun hHeld => ?_)
   obtain ⟨u, hu⟩ : ∃ u, v.drew = u := ⟨_, rfl⟩
   rw [hu] at Hd HBd HKd HYd hHeld ⊢
   clear hu y0 HD
   refine pure_ (i := 0) (N := some 74) (v := ?_) (a' := ?_) #[true, false, false, false, false, false, false] rfl rfl (by kernel_rfl) (fun _ _ _ h => h) (Or.inl ⟨by rfl, ?_⟩) ?_ ?_
   rotate_left
   ·intro w'
    go_simp
    try with_reducible rfl
   rotate_left
   ·simp only [Act.put, sq1, sq2, sq3, i64_w, i32_w]
    rfl
   refine pure_ (i := 1) (N := some 75) (v := ?_) (a' := ?_) #[true, true, false, false, false, false, false] rfl rfl (by kernel_rfl) (fun _ _ _ h => h) (Or.inl ⟨by rfl, ?_⟩) ?_ ?_
   rotate_left
   ·intro w'
    go_simp
    try with_reducible rfl
   rotate_left
   ·simp only [Act.put, sq1, sq2, sq3, i64_w, i32_w]
    rfl
   refine pure_ (i := 2) (N := some 76) (v := ?_) (a' := ?_) #[true, true, true, false, false, false, false] rfl rfl (by kernel_rfl) (fun _ _ _ h => h) (Or.inl ⟨by rfl, ?_⟩) ?_ ?_
   rotate_left
   ·intro w'
    go_simp
    try with_reducible rfl
   rotate_left
   ·simp only [Act.put, sq1, sq2, sq3, i64_w, i32_w]
    rfl
   refine pure_ (i := 3) (N := some 77) (v := ?_) (a' := ?_) #[true, true, true, true, false, false, false] rfl rfl (by kernel_rfl) (fun _ _ _ h => h) (Or.inl ⟨by rfl, ?_⟩) ?_ ?_
   rotate_left
   ·intro w'
    go_simp
    try with_reducible rfl
   rotate_left
   ·simp only [Act.put, sq1, sq2, sq3, i64_w, i32_w]
    rfl
   refine take_ (i := 4) (N := some 78) (v := ?_) (a' := ?_) #[true, true, true, true, true, false, false] rfl rfl (by kernel_rfl) (fun _ _ _ h => h) (Or.inl ⟨by rfl, ?_⟩) hHeld ?_ ?_
   rotate_left
   ·intro w' hS
    go_simp
    try with_reducible rfl
   rotate_left
   ·simp only [Act.put, sq1, sq2, sq3, i64_w, i32_w]
    rfl
   refine one_ (i := 5) (N := some 79) #[true, true, true, true, true, true, false] rfl rfl (by kernel_rfl) (by decide) (fun K hK => ?_)
   refine value_ (w1 := ?_) (v := ?_) (by rfl) rfl ?_ ?_
   rotate_left 2
   ·go_simp
    constructor <;> rfl
   have hba := (Below.refl _ u).alloc (Nat.le_refl _) (.cells #[.int .i64 x.f0] 2)
   have HYe := Lib.hid (show (u.alloc (.cells #[.int .i64 x.f0] 2)).heap[g]? = some (.cells #[.int .i64 x.f0, .int .i64 x.f1.f0, .int .i64 x.f1.f1, .int .i64 x.f1.f2, .slice A4 x.f1.f3.length c4] 63) from (hba.block g (Array.getElem?_eq_some_iff.1 HYd.out).1).trans HYd.out); have He := Lib.hid (Hd.out.below hba); have HBe := Lib.hid (HBd.out.alloc HBd.out.size (.cells #[.int .i64 x.f0] 2)); have HKe := Lib.hid (HKd.out.alloc (.cells #[.int .i64 x.f0] 2))
   clear hba
   refine hK.out _ _ (by simp [World.cell?, HYe.out]) (fun hHeld => ?_)
   clear hK K
   refine norm_ (a' := ?_) ?_ ?_
   rotate_left
   ·show Act.put _ (some 79) _ = _
    simp only [Act.put, sq1, sq2, sq3, i64_w, i32_w]
    rfl
   refine one_ (i := 6) (N := some 80) #[true, true, true, true, true, true, true] rfl rfl (by kernel_rfl) (by decide) (fun K hK => ?_)
   go_simp
   refine (nums_is He.out HBe.out HP.out _ 1 [x.f0] (C_lit u [x.f0] (by simp)) (by simp [okI, HOX.out.1]) (by have := HLJ.out; simp only [List.length_cons, List.length_nil]; omega)).mono ?_
   rintro e v1 ⟨rfl, h1, h2, h3⟩
   have HI6 := Lib.hid (show IsPen v1 w0.heap.size p (lj ++ numB x.f0) by rw [numsB_one] at h1; exact h1); have HB6 := Lib.hid h2; have HK6 := Lib.hid (HKe.out.trans h3)
   have HY6 := Lib.hid (show v1.heap[g]? = some (.cells #[.int .i64 x.f0, .int .i64 x.f1.f0, .int .i64 x.f1.f1, .int .i64 x.f1.f2, .slice A4 x.f1.f3.length c4] 63) from (h3.block g (Array.getElem?_eq_some_iff.1 HYe.out).1 HN5.out).trans HYe.out)
   clear h1 h2 h3
   refine hK.out _ _ (by simp [World.cell?, HY6.out]) (fun hHeld => ?_)
   clear hK K
   refine done_ (by kernel_rfl) ?_
   have HLL6 := Lib.hid (show (lj ++ numB x.f0).length + 30000 < 140737488355328 by have h1 := HLJ.out; have h2 := (numB_len HOX.out.1).2; rw [List.length_append]; omega)
   have y0 : v1.cell? ⟨g, 0, none⟩ = some (.int .i64 x.f0) := by simp [World.cell?, HY6.out]
   have y1 : v1.cell? ⟨g, 1, none⟩ = some (.int .i64 x.f1.f0) := by simp [World.cell?, HY6.out]
   have y2 : v1.cell? ⟨g, 2, none⟩ = some (.int .i64 x.f1.f1) := by simp [World.cell?, HY6.out]
   have y3 : v1.cell? ⟨g, 3, none⟩ = some (.int .i64 x.f1.f2) := by simp [World.cell?, HY6.out]
   have y4 : v1.cell? ⟨g, 4, none⟩ = some (.slice A4 x.f1.f3.length c4) := by simp [World.cell?, HY6.out]
   go_wp2_with fail
   refine (penEntry_is HI6.out HB6.out HP.out x.f1.f0 x.f1.f1 x.f1.f2 A4 c4 x.f1.f3 HXC.out HOX.out.2 HMX.out HLL6.out).mono ?_
   rintro e v2 ⟨rfl, h1, h2, h3⟩
   have HI7 := Lib.hid h1; have HB7 := Lib.hid h2; have HK7 := Lib.hid (HK6.out.trans h3)
   clear h1 h2 h3 y0 y1 y2 y3 y4
   go_wp2_with fail
   go_roundw
   case rel =>
    refine ⟨j + 1, by go_num, hlt, ?_, HB7.out, HK7.out⟩
    have h1 := HI7.out
    rw [HX.out, List.flatMap_append, List.flatMap_cons, List.flatMap_nil, List.append_nil, ← List.append_assoc, HQJ.out]
    unfold trB
    rw [← List.append_assoc]
    exact h1
   case measure => simp [intOf]; omega
  ·have hjn : j = m.f8.length := by omega
   have HF := Lib.hid (show IsPen wr w0.heap.size p (l0 ++ msgB m) by
    have h1 := HI.out
    rw [hjn, List.take_length, ← HQ3.out, ← HQ2.out, ← HQ1.out, ← HQ0.out] at h1
    rw [HTB.out]
    simpa only [List.append_assoc, numsB_one] using h1)
   clear hjn
   go_wp2_with fail
   go_end0
   exact ⟨rfl, HF.out, HB.out, HKj.out⟩
set_option maxHeartbeats 4000000 in
theorem penMsg4 {w0 w : World} {p : Nat} {l0 : List Int} (hI : IsPen w w0.heap.size p l0) (hB : Below w0.heap.size w0 w) (hp : w0.heap.size ≤ p) (m : MsgD) {A8 A12 A16 : Option Addr} {c8 c12 c16 : Nat} (hm : MsgC w0 m A8 c8 A12 c12 A16 c16) (ho : OkM m) (hk : m.f0 = 4) (hs : l0.length + 200000000 < 140737488355328) :
  Calls Tryz.prog 50 #[.pointer (some ⟨p, 0, none⟩), .agg #[.int .i64 m.f0, .int .i64 m.f1, .int .i64 m.f2, .int .i64 m.f3, .int .i64 m.f4, .int .i64 m.f5, .int .i64 m.f6, .bool m.f7, .slice A8 m.f8.length c8, .int .i64 m.f9.f0, .int .i64 m.f9.f1, .int .i64 m.f9.f2, .slice A12 m.f9.f3.length c12, .int .i64 m.f10.f0, .int .i64 m.f10.f1, .int .i64 m.f10.f2, .slice A16 m.f10.f3.length c16]] w fun e w' => PenP w0 w p (l0 ++ msgB m) e w' := by
 have HO := Lib.hid ho; have HM := Lib.hid hm; have HP := Lib.hid hp; have HS := Lib.hid hs; have HL0 := Lib.hid (show l0.length ≤ l0.length + 0 from Nat.le_refl _)
 have HNE := Lib.hid (show w.heap.size ≠ p by have := hI.lt; omega)
 have H0 := Lib.hid (hI.below ((Below.refl _ w).alloc (Nat.le_refl _) (.cells #[.int .i64 m.f0, .int .i64 m.f1, .int .i64 m.f2, .int .i64 m.f3, .int .i64 m.f4, .int .i64 m.f5, .int .i64 m.f6, .bool m.f7, .slice A8 m.f8.length c8, .int .i64 m.f9.f0, .int .i64 m.f9.f1, .int .i64 m.f9.f2, .slice A12 m.f9.f3.length c12, .int .i64 m.f10.f0, .int .i64 m.f10.f1, .int .i64 m.f10.f2, .slice A16 m.f10.f3.length c16] 34))); have HB0 := Lib.hid (hB.alloc hB.size (.cells #[.int .i64 m.f0, .int .i64 m.f1, .int .i64 m.f2, .int .i64 m.f3, .int .i64 m.f4, .int .i64 m.f5, .int .i64 m.f6, .bool m.f7, .slice A8 m.f8.length c8, .int .i64 m.f9.f0, .int .i64 m.f9.f1, .int .i64 m.f9.f2, .slice A12 m.f9.f3.length c12, .int .i64 m.f10.f0, .int .i64 m.f10.f1, .int .i64 m.f10.f2, .slice A16 m.f10.f3.length c16] 34)); have HK0 := Lib.hid ((KeepS.refl (fun i => i = p) w).alloc (.cells #[.int .i64 m.f0, .int .i64 m.f1, .int .i64 m.f2, .int .i64 m.f3, .int .i64 m.f4, .int .i64 m.f5, .int .i64 m.f6, .bool m.f7, .slice A8 m.f8.length c8, .int .i64 m.f9.f0, .int .i64 m.f9.f1, .int .i64 m.f9.f2, .slice A12 m.f9.f3.length c12, .int .i64 m.f10.f0, .int .i64 m.f10.f1, .int .i64 m.f10.f2, .slice A16 m.f10.f3.length c16] 34))
 have HX0 := Lib.hid (show MsBox (w.alloc (.cells #[.int .i64 m.f0, .int .i64 m.f1, .int .i64 m.f2, .int .i64 m.f3, .int .i64 m.f4, .int .i64 m.f5, .int .i64 m.f6, .bool m.f7, .slice A8 m.f8.length c8, .int .i64 m.f9.f0, .int .i64 m.f9.f1, .int .i64 m.f9.f2, .slice A12 m.f9.f3.length c12, .int .i64 m.f10.f0, .int .i64 m.f10.f1, .int .i64 m.f10.f2, .slice A16 m.f10.f3.length c16] 34)) w.heap.size m A8 c8 A12 c12 A16 c16 from heap_alloc_new w _)
 have HT1 := Lib.hid (show okI [m.f3] = true by have := ho.t; simp only [okI_cons] at this ⊢; exact ⟨this.1, rfl⟩)
 have HT4 := Lib.hid (show okI [m.f4] = true by have := ho.t; simp only [okI_cons] at this ⊢; exact ⟨this.2.1, rfl⟩)
 have q1 : (m.f0 == 1) = false := by rw [hk]; rfl
 have q2 : (m.f0 == 2) = false := by rw [hk]; rfl
 have q3 : (m.f0 == 3) = false := by rw [hk]; rfl
 have q4 : (m.f0 == 4) = true := by rw [hk]; rfl
 have HTB := Lib.hid (show msgB m = numsB [m.f0, m.f1, m.f2] ++ (numB m.f3 ++ yesB m.f7 ++ numB m.f4) by unfold msgB tailB; simp only [hk]; rfl)
 clear hI hB hp hs ho hm hk
 go_enter Tryz.func50, Tryz.ntmps50
 go_upto_region 1 with fail
 obtain ⟨v0, hv⟩ : ∃ v, w.alloc (.cells #[.int .i64 m.f0, .int .i64 m.f1, .int .i64 m.f2, .int .i64 m.f3, .int .i64 m.f4, .int .i64 m.f5, .int .i64 m.f6, .bool m.f7, .slice A8 m.f8.length c8, .int .i64 m.f9.f0, .int .i64 m.f9.f1, .int .i64 m.f9.f2, .slice A12 m.f9.f3.length c12, .int .i64 m.f10.f0, .int .i64 m.f10.f1, .int .i64 m.f10.f2, .slice A16 m.f10.f3.length c16] 34) = v := ⟨_, rfl⟩
 obtain ⟨b, hb⟩ : ∃ b, w.heap.size = b := ⟨_, rfl⟩
 rw [hv] at H0 HB0 HK0 HX0 ⊢
 rw [hb] at HNE HX0 ⊢
 clear hv hb
 obtain ⟨la0, hl0⟩ : ∃ la, l0 = la := ⟨_, rfl⟩
 have HQ0 := Lib.hid hl0
 have HLZ := Lib.hid (show la0.length ≤ l0.length + 0 by rw [← hl0]; exact Nat.le_refl _)
 rw [hl0] at H0
 clear hl0 HL0
 have HL0 := HLZ
 have HD := Lib.hid (show Below v0.heap.size v0 v0.drew from (Below.refl _ _).drew)
 have Hd := Lib.hid (H0.out.below HD.out); have HBd := Lib.hid HB0.out.drew; have HKd := Lib.hid HK0.out.drew; have HXd := Lib.hid (show MsBox v0.drew b m A8 c8 A12 c12 A16 c16 from HX0.out)
 clear HD
 obtain ⟨d0, d1, d2, d3, d4, d5, d6, d7, d8, d9, d10, d11, d12, d13, d14, d15, d16⟩ := HXd.out.cell
 refine start_ (n := 11) (S := fun w' => w'.cell? ⟨b, 0, none⟩ = some (.int .i64 m.f0) ∧ w'.cell? ⟨b, 1, none⟩ = some (.int .i64 m.f1) ∧ w'.cell? ⟨b, 2, none⟩ = some (.int .i64 m.f2)) (ds := []) #[false, false, false, false, false, false, false, false, false, false, false] (by kernel_rfl) rfl rfl ⟨d0, d1, d2⟩ (fun hHeld => ?_)
 obtain ⟨u, hu⟩ : ∃ u, v0.drew = u := ⟨_, rfl⟩
 rw [hu] at Hd HBd HKd HXd hHeld ⊢
 clear hu d0 d1 d2 d3 d4 d5 d6 d7 d8 d9 d10 d11 d12 d13 d14 d15 d16
 refine pure_ (i := 0) (N := some 6) (v := ?_) (a' := ?_) #[true, false, false, false, false, false, false, false, false, false, false] rfl rfl (by kernel_rfl) (fun _ _ _ h => h) (Or.inl ⟨by rfl, ?_⟩) ?_ ?_
 rotate_left
 ·intro w'
  go_simp
  try with_reducible rfl
 rotate_left
 ·simp only [Act.put, sq1, sq2, sq3, i64_w, i32_w]
  rfl
 refine pure_ (i := 1) (N := some 7) (v := ?_) (a' := ?_) #[true, true, false, false, false, false, false, false, false, false, false] rfl rfl (by kernel_rfl) (fun _ _ _ h => h) (Or.inl ⟨by rfl, ?_⟩) ?_ ?_
 rotate_left
 ·intro w'
  go_simp
  try with_reducible rfl
 rotate_left
 ·simp only [Act.put, sq1, sq2, sq3, i64_w, i32_w]
  rfl
 refine pure_ (i := 2) (N := some 8) (v := ?_) (a' := ?_) #[true, true, true, false, false, false, false, false, false, false, false] rfl rfl (by kernel_rfl) (fun _ _ _ h => h) (Or.inl ⟨by rfl, ?_⟩) ?_ ?_
 rotate_left
 ·intro w'
  go_simp
  try with_reducible rfl
 rotate_left
 ·simp only [Act.put, sq1, sq2, sq3, i64_w, i32_w]
  rfl
 refine pure_ (i := 3) (N := some 9) (v := ?_) (a' := ?_) #[true, true, true, true, false, false, false, false, false, false, false] rfl rfl (by kernel_rfl) (fun _ _ _ h => h) (Or.inl ⟨by rfl, ?_⟩) ?_ ?_
 rotate_left
 ·intro w'
  go_simp
  try with_reducible rfl
 rotate_left
 ·simp only [Act.put, sq1, sq2, sq3, i64_w, i32_w]
  rfl
 refine take_ (i := 4) (N := some 10) (v := ?_) (a' := ?_) #[true, true, true, true, true, false, false, false, false, false, false] rfl rfl (by kernel_rfl) (fun _ _ _ h => h) (Or.inl ⟨by rfl, ?_⟩) hHeld ?_ ?_
 rotate_left
 ·intro w' hS
  obtain ⟨x0, x1, x2⟩ := hS
  go_simp
  try with_reducible rfl
 rotate_left
 ·simp only [Act.put, sq1, sq2, sq3, i64_w, i32_w]
  rfl
 refine pure_ (i := 5) (N := some 11) (v := ?_) (a' := ?_) #[true, true, true, true, true, true, false, false, false, false, false] rfl rfl (by kernel_rfl) (fun _ _ _ h => h) (Or.inl ⟨by rfl, ?_⟩) ?_ ?_
 rotate_left
 ·intro w'
  go_simp
  try with_reducible rfl
 rotate_left
 ·simp only [Act.put, sq1, sq2, sq3, i64_w, i32_w]
  rfl
 refine take_ (i := 6) (N := some 12) (v := ?_) (a' := ?_) #[true, true, true, true, true, true, true, false, false, false, false] rfl rfl (by kernel_rfl) (fun _ _ _ h => h) (Or.inl ⟨by rfl, ?_⟩) hHeld ?_ ?_
 rotate_left
 ·intro w' hS
  obtain ⟨x0, x1, x2⟩ := hS
  go_simp
  try with_reducible rfl
 rotate_left
 ·simp only [Act.put, sq1, sq2, sq3, i64_w, i32_w]
  rfl
 refine pure_ (i := 7) (N := some 13) (v := ?_) (a' := ?_) #[true, true, true, true, true, true, true, true, false, false, false] rfl rfl (by kernel_rfl) (fun _ _ _ h => h) (Or.inl ⟨by rfl, ?_⟩) ?_ ?_
 rotate_left
 ·intro w'
  go_simp
  try with_reducible rfl
 rotate_left
 ·simp only [Act.put, sq1, sq2, sq3, i64_w, i32_w]
  rfl
 refine take_ (i := 8) (N := some 14) (v := ?_) (a' := ?_) #[true, true, true, true, true, true, true, true, true, false, false] rfl rfl (by kernel_rfl) (fun _ _ _ h => h) (Or.inl ⟨by rfl, ?_⟩) hHeld ?_ ?_
 rotate_left
 ·intro w' hS
  obtain ⟨x0, x1, x2⟩ := hS
  go_simp
  try with_reducible rfl
 rotate_left
 ·simp only [Act.put, sq1, sq2, sq3, i64_w, i32_w]
  rfl
 refine one_ (i := 9) (N := some 15) #[true, true, true, true, true, true, true, true, true, true, false] rfl rfl (by kernel_rfl) (by decide) (fun K hK => ?_)
 refine value_ (w1 := ?_) (v := ?_) (by rfl) rfl ?_ ?_
 rotate_left 2
 ·go_simp
  constructor <;> rfl
 have hba := (Below.refl _ u).alloc (Nat.le_refl _) (.cells #[.int .i64 m.f0, .int .i64 m.f1, .int .i64 m.f2] 2)
 have HXe := Lib.hid (show MsBox (u.alloc (.cells #[.int .i64 m.f0, .int .i64 m.f1, .int .i64 m.f2] 2)) b m A8 c8 A12 c12 A16 c16 from HXd.out.below hba); have He := Lib.hid (Hd.out.below hba); have HBe := Lib.hid (HBd.out.alloc HBd.out.size (.cells #[.int .i64 m.f0, .int .i64 m.f1, .int .i64 m.f2] 2)); have HKe := Lib.hid (HKd.out.alloc (.cells #[.int .i64 m.f0, .int .i64 m.f1, .int .i64 m.f2] 2))
 clear hba
 obtain ⟨d0, d1, d2, d3, d4, d5, d6, d7, d8, d9, d10, d11, d12, d13, d14, d15, d16⟩ := HXe.out.cell
 refine hK.out _ _ ⟨d0, d1, d2⟩ (fun hHeld => ?_)
 clear hK K
 clear d0 d1 d2 d3 d4 d5 d6 d7 d8 d9 d10 d11 d12 d13 d14 d15 d16
 refine norm_ (a' := ?_) ?_ ?_
 rotate_left
 ·show Act.put _ (some 15) _ = _
  simp only [Act.put, sq1, sq2, sq3, i64_w, i32_w]
  rfl
 refine one_ (i := 10) (N := some 16) #[true, true, true, true, true, true, true, true, true, true, true] rfl rfl (by kernel_rfl) (by decide) (fun K hK => ?_)
 go_simp
 refine (nums_is He.out HBe.out HP.out _ 3 [m.f0, m.f1, m.f2] (C_lit u [m.f0, m.f1, m.f2] (by simp)) HO.out.h (by have := HS.out; have := HL0.out; simp only [List.length_cons, List.length_nil]; omega)).mono ?_
 rintro e v1 ⟨rfl, h1, h2, h3⟩
 obtain ⟨la1, hla⟩ : ∃ la, la0 ++ numsB [m.f0, m.f1, m.f2] = la := ⟨_, rfl⟩
 have HL1 := Lib.hid (show la1.length ≤ l0.length + 27 by rw [← hla]; have h8 := HL0.out; have h9 : (numsB [m.f0, m.f1, m.f2]).length ≤ 27 := numsB_le HO.out.h _ (by simp); simp only [List.length_append] at h9 ⊢; omega)
 have HQ1 := Lib.hid hla
 have H1 := Lib.hid (show IsPen v1 w0.heap.size p la1 by rw [← hla]; simpa only [List.append_assoc] using h1); have HB1 := Lib.hid h2; have HK1 := Lib.hid (HKe.out.trans h3); have HX1 := Lib.hid (HXe.out.keep h3 HNE.out)
 clear h1 h2 h3 hla
 obtain ⟨d0, d1, d2, d3, d4, d5, d6, d7, d8, d9, d10, d11, d12, d13, d14, d15, d16⟩ := HX1.out.cell
 refine hK.out _ _ ⟨d0, d1, d2⟩ (fun hHeld => ?_)
 clear hK K
 clear d0 d1 d2 d3 d4 d5 d6 d7 d8 d9 d10 d11 d12 d13 d14 d15 d16
 refine done_ (by kernel_rfl) ?_
 obtain ⟨d0, d1, d2, d3, d4, d5, d6, d7, d8, d9, d10, d11, d12, d13, d14, d15, d16⟩ := HX1.out.cell
 go_upto_region 18 with fail
 clear d0 d1 d2 d3 d4 d5 d6 d7 d8 d9 d10 d11 d12 d13 d14 d15 d16
 have HD := Lib.hid (show Below v1.heap.size v1 v1.drew from (Below.refl _ _).drew)
 have Hd := Lib.hid (H1.out.below HD.out); have HBd := Lib.hid HB1.out.drew; have HKd := Lib.hid HK1.out.drew; have HXd := Lib.hid (show MsBox v1.drew b m A8 c8 A12 c12 A16 c16 from HX1.out)
 clear HD
 obtain ⟨d0, d1, d2, d3, d4, d5, d6, d7, d8, d9, d10, d11, d12, d13, d14, d15, d16⟩ := HXd.out.cell
 refine start_ (n := 7) (S := fun w' => w'.cell? ⟨b, 3, none⟩ = some (.int .i64 m.f3)) (ds := []) #[false, false, false, false, false, false, false] (by kernel_rfl) rfl rfl d3 (fun hHeld => ?_)
 obtain ⟨u, hu⟩ : ∃ u, v1.drew = u := ⟨_, rfl⟩
 rw [hu] at Hd HBd HKd HXd hHeld ⊢
 clear hu d0 d1 d2 d3 d4 d5 d6 d7 d8 d9 d10 d11 d12 d13 d14 d15 d16
 refine pure_ (i := 0) (N := some 88) (v := ?_) (a' := ?_) #[true, false, false, false, false, false, false] rfl rfl (by kernel_rfl) (fun _ _ _ h => h) (Or.inl ⟨by rfl, ?_⟩) ?_ ?_
 rotate_left
 ·intro w'
  go_simp
  try with_reducible rfl
 rotate_left
 ·simp only [Act.put, sq1, sq2, sq3, i64_w, i32_w]
  rfl
 refine pure_ (i := 1) (N := some 89) (v := ?_) (a' := ?_) #[true, true, false, false, false, false, false] rfl rfl (by kernel_rfl) (fun _ _ _ h => h) (Or.inl ⟨by rfl, ?_⟩) ?_ ?_
 rotate_left
 ·intro w'
  go_simp
  try with_reducible rfl
 rotate_left
 ·simp only [Act.put, sq1, sq2, sq3, i64_w, i32_w]
  rfl
 refine pure_ (i := 2) (N := some 90) (v := ?_) (a' := ?_) #[true, true, true, false, false, false, false] rfl rfl (by kernel_rfl) (fun _ _ _ h => h) (Or.inl ⟨by rfl, ?_⟩) ?_ ?_
 rotate_left
 ·intro w'
  go_simp
  try with_reducible rfl
 rotate_left
 ·simp only [Act.put, sq1, sq2, sq3, i64_w, i32_w]
  rfl
 refine pure_ (i := 3) (N := some 91) (v := ?_) (a' := ?_) #[true, true, true, true, false, false, false] rfl rfl (by kernel_rfl) (fun _ _ _ h => h) (Or.inl ⟨by rfl, ?_⟩) ?_ ?_
 rotate_left
 ·intro w'
  go_simp
  try with_reducible rfl
 rotate_left
 ·simp only [Act.put, sq1, sq2, sq3, i64_w, i32_w]
  rfl
 refine take_ (i := 4) (N := some 92) (v := ?_) (a' := ?_) #[true, true, true, true, true, false, false] rfl rfl (by kernel_rfl) (fun _ _ _ h => h) (Or.inl ⟨by rfl, ?_⟩) hHeld ?_ ?_
 rotate_left
 ·intro w' hS
  have x0 := hS
  go_simp
  try with_reducible rfl
 rotate_left
 ·simp only [Act.put, sq1, sq2, sq3, i64_w, i32_w]
  rfl
 refine one_ (i := 5) (N := some 93) #[true, true, true, true, true, true, false] rfl rfl (by kernel_rfl) (by decide) (fun K hK => ?_)
 refine value_ (w1 := ?_) (v := ?_) (by rfl) rfl ?_ ?_
 rotate_left 2
 ·go_simp
  constructor <;> rfl
 have hba := (Below.refl _ u).alloc (Nat.le_refl _) (.cells #[.int .i64 m.f3] 2)
 have HXe := Lib.hid (show MsBox (u.alloc (.cells #[.int .i64 m.f3] 2)) b m A8 c8 A12 c12 A16 c16 from HXd.out.below hba); have He := Lib.hid (Hd.out.below hba); have HBe := Lib.hid (HBd.out.alloc HBd.out.size (.cells #[.int .i64 m.f3] 2)); have HKe := Lib.hid (HKd.out.alloc (.cells #[.int .i64 m.f3] 2))
 clear hba
 obtain ⟨d0, d1, d2, d3, d4, d5, d6, d7, d8, d9, d10, d11, d12, d13, d14, d15, d16⟩ := HXe.out.cell
 refine hK.out _ _ d3 (fun hHeld => ?_)
 clear hK K
 clear d0 d1 d2 d3 d4 d5 d6 d7 d8 d9 d10 d11 d12 d13 d14 d15 d16
 refine norm_ (a' := ?_) ?_ ?_
 rotate_left
 ·show Act.put _ (some 93) _ = _
  simp only [Act.put, sq1, sq2, sq3, i64_w, i32_w]
  rfl
 refine one_ (i := 6) (N := some 94) #[true, true, true, true, true, true, true] rfl rfl (by kernel_rfl) (by decide) (fun K hK => ?_)
 go_simp
 refine (nums_is He.out HBe.out HP.out _ 1 [m.f3] (C_lit u [m.f3] (by simp)) HT1.out (by have := HS.out; have := HL1.out; simp only [List.length_cons, List.length_nil]; omega)).mono ?_
 rintro e v2 ⟨rfl, h1, h2, h3⟩
 obtain ⟨la2, hla⟩ : ∃ la, la1 ++ numsB [m.f3] = la := ⟨_, rfl⟩
 have HL2 := Lib.hid (show la2.length ≤ l0.length + 36 by rw [← hla]; have h8 := HL1.out; have h9 : (numsB [m.f3]).length ≤ 9 := numsB_le HT1.out _ (by simp); simp only [List.length_append] at h9 ⊢; omega)
 have HQ2 := Lib.hid hla
 have H2 := Lib.hid (show IsPen v2 w0.heap.size p la2 by rw [← hla]; simpa only [List.append_assoc] using h1); have HB2 := Lib.hid h2; have HK2 := Lib.hid (HKe.out.trans h3); have HX2 := Lib.hid (HXe.out.keep h3 HNE.out)
 clear h1 h2 h3 hla
 obtain ⟨d0, d1, d2, d3, d4, d5, d6, d7, d8, d9, d10, d11, d12, d13, d14, d15, d16⟩ := HX2.out.cell
 refine hK.out _ _ d3 (fun hHeld => ?_)
 clear hK K
 clear d0 d1 d2 d3 d4 d5 d6 d7 d8 d9 d10 d11 d12 d13 d14 d15 d16
 refine done_ (by kernel_rfl) ?_
 obtain ⟨d0, d1, d2, d3, d4, d5, d6, d7, d8, d9, d10, d11, d12, d13, d14, d15, d16⟩ := HX2.out.cell
 go_wp2_with fail
 refine (penYes_is H2.out HB2.out HP.out m.f7 (by have := HS.out; have := HL2.out; omega)).mono ?_
 rintro e v3 ⟨rfl, h1, h2, h3⟩
 obtain ⟨la3, hla⟩ : ∃ la, la2 ++ yesB m.f7 = la := ⟨_, rfl⟩
 have HL3 := Lib.hid (show la3.length ≤ l0.length + 45 by rw [← hla]; have h8 := HL2.out; have h9 : (yesB m.f7).length ≤ 9 := yesB_len _; simp only [List.length_append] at h9 ⊢; omega)
 have HQ3 := Lib.hid hla
 have H3 := Lib.hid (show IsPen v3 w0.heap.size p la3 by rw [← hla]; simpa only [List.append_assoc] using h1); have HB3 := Lib.hid h2; have HK3 := Lib.hid (HK2.out.trans h3); have HX3 := Lib.hid (HX2.out.keep h3 HNE.out)
 clear h1 h2 h3 hla
 clear d0 d1 d2 d3 d4 d5 d6 d7 d8 d9 d10 d11 d12 d13 d14 d15 d16
 obtain ⟨d0, d1, d2, d3, d4, d5, d6, d7, d8, d9, d10, d11, d12, d13, d14, d15, d16⟩ := HX3.out.cell
 go_upto_region 20 with fail
 clear d0 d1 d2 d3 d4 d5 d6 d7 d8 d9 d10 d11 d12 d13 d14 d15 d16
 have HD := Lib.hid (show Below v3.heap.size v3 v3.drew from (Below.refl _ _).drew)
 have Hd := Lib.hid (H3.out.below HD.out); have HBd := Lib.hid HB3.out.drew; have HKd := Lib.hid HK3.out.drew; have HXd := Lib.hid (show MsBox v3.drew b m A8 c8 A12 c12 A16 c16 from HX3.out)
 clear HD
 obtain ⟨d0, d1, d2, d3, d4, d5, d6, d7, d8, d9, d10, d11, d12, d13, d14, d15, d16⟩ := HXd.out.cell
 refine start_ (n := 7) (S := fun w' => w'.cell? ⟨b, 4, none⟩ = some (.int .i64 m.f4)) (ds := []) #[false, false, false, false, false, false, false] (by kernel_rfl) rfl rfl d4 (fun hHeld => ?_)
 obtain ⟨u, hu⟩ : ∃ u, v3.drew = u := ⟨_, rfl⟩
 rw [hu] at Hd HBd HKd HXd hHeld ⊢
 clear hu d0 d1 d2 d3 d4 d5 d6 d7 d8 d9 d10 d11 d12 d13 d14 d15 d16
 refine pure_ (i := 0) (N := some 99) (v := ?_) (a' := ?_) #[true, false, false, false, false, false, false] rfl rfl (by kernel_rfl) (fun _ _ _ h => h) (Or.inl ⟨by rfl, ?_⟩) ?_ ?_
 rotate_left
 ·intro w'
  go_simp
  try with_reducible rfl
 rotate_left
 ·simp only [Act.put, sq1, sq2, sq3, i64_w, i32_w]
  rfl
 refine pure_ (i := 1) (N := some 100) (v := ?_) (a' := ?_) #[true, true, false, false, false, false, false] rfl rfl (by kernel_rfl) (fun _ _ _ h => h) (Or.inl ⟨by rfl, ?_⟩) ?_ ?_
 rotate_left
 ·intro w'
  go_simp
  try with_reducible rfl
 rotate_left
 ·simp only [Act.put, sq1, sq2, sq3, i64_w, i32_w]
  rfl
 refine pure_ (i := 2) (N := some 101) (v := ?_) (a' := ?_) #[true, true, true, false, false, false, false] rfl rfl (by kernel_rfl) (fun _ _ _ h => h) (Or.inl ⟨by rfl, ?_⟩) ?_ ?_
 rotate_left
 ·intro w'
  go_simp
  try with_reducible rfl
 rotate_left
 ·simp only [Act.put, sq1, sq2, sq3, i64_w, i32_w]
  rfl
 refine pure_ (i := 3) (N := some 102) (v := ?_) (a' := ?_) #[true, true, true, true, false, false, false] rfl rfl (by kernel_rfl) (fun _ _ _ h => h) (Or.inl ⟨by rfl, ?_⟩) ?_ ?_
 rotate_left
 ·intro w'
  go_simp
  try with_reducible rfl
 rotate_left
 ·simp only [Act.put, sq1, sq2, sq3, i64_w, i32_w]
  rfl
 refine take_ (i := 4) (N := some 103) (v := ?_) (a' := ?_) #[true, true, true, true, true, false, false] rfl rfl (by kernel_rfl) (fun _ _ _ h => h) (Or.inl ⟨by rfl, ?_⟩) hHeld ?_ ?_
 rotate_left
 ·intro w' hS
  have x0 := hS
  go_simp
  try with_reducible rfl
 rotate_left
 ·simp only [Act.put, sq1, sq2, sq3, i64_w, i32_w]
  rfl
 refine one_ (i := 5) (N := some 104) #[true, true, true, true, true, true, false] rfl rfl (by kernel_rfl) (by decide) (fun K hK => ?_)
 refine value_ (w1 := ?_) (v := ?_) (by rfl) rfl ?_ ?_
 rotate_left 2
 ·go_simp
  constructor <;> rfl
 have hba := (Below.refl _ u).alloc (Nat.le_refl _) (.cells #[.int .i64 m.f4] 2)
 have HXe := Lib.hid (show MsBox (u.alloc (.cells #[.int .i64 m.f4] 2)) b m A8 c8 A12 c12 A16 c16 from HXd.out.below hba); have He := Lib.hid (Hd.out.below hba); have HBe := Lib.hid (HBd.out.alloc HBd.out.size (.cells #[.int .i64 m.f4] 2)); have HKe := Lib.hid (HKd.out.alloc (.cells #[.int .i64 m.f4] 2))
 clear hba
 obtain ⟨d0, d1, d2, d3, d4, d5, d6, d7, d8, d9, d10, d11, d12, d13, d14, d15, d16⟩ := HXe.out.cell
 refine hK.out _ _ d4 (fun hHeld => ?_)
 clear hK K
 clear d0 d1 d2 d3 d4 d5 d6 d7 d8 d9 d10 d11 d12 d13 d14 d15 d16
 refine norm_ (a' := ?_) ?_ ?_
 rotate_left
 ·show Act.put _ (some 104) _ = _
  simp only [Act.put, sq1, sq2, sq3, i64_w, i32_w]
  rfl
 refine one_ (i := 6) (N := some 105) #[true, true, true, true, true, true, true] rfl rfl (by kernel_rfl) (by decide) (fun K hK => ?_)
 go_simp
 refine (nums_is He.out HBe.out HP.out _ 1 [m.f4] (C_lit u [m.f4] (by simp)) HT4.out (by have := HS.out; have := HL3.out; simp only [List.length_cons, List.length_nil]; omega)).mono ?_
 rintro e v4 ⟨rfl, h1, h2, h3⟩
 obtain ⟨la4, hla⟩ : ∃ la, la3 ++ numsB [m.f4] = la := ⟨_, rfl⟩
 have HL4 := Lib.hid (show la4.length ≤ l0.length + 54 by rw [← hla]; have h8 := HL3.out; have h9 : (numsB [m.f4]).length ≤ 9 := numsB_le HT4.out _ (by simp); simp only [List.length_append] at h9 ⊢; omega)
 have HQ4 := Lib.hid hla
 have H4 := Lib.hid (show IsPen v4 w0.heap.size p la4 by rw [← hla]; simpa only [List.append_assoc] using h1); have HB4 := Lib.hid h2; have HK4 := Lib.hid (HKe.out.trans h3); have HX4 := Lib.hid (HXe.out.keep h3 HNE.out)
 clear h1 h2 h3 hla
 obtain ⟨d0, d1, d2, d3, d4, d5, d6, d7, d8, d9, d10, d11, d12, d13, d14, d15, d16⟩ := HX4.out.cell
 refine hK.out _ _ d4 (fun hHeld => ?_)
 clear hK K
 clear d0 d1 d2 d3 d4 d5 d6 d7 d8 d9 d10 d11 d12 d13 d14 d15 d16
 refine done_ (by kernel_rfl) ?_
 have HF := Lib.hid (show IsPen v4 w0.heap.size p (l0 ++ msgB m) by
  have h1 := H4.out
  rw [← HQ4.out, ← HQ3.out, ← HQ2.out, ← HQ1.out, ← HQ0.out] at h1
  rw [HTB.out]
  simpa only [List.append_assoc, numsB_one] using h1)
 go_wp2_with fail
 go_end0
 exact ⟨rfl, HF.out, HB4.out, HK4.out⟩
set_option maxHeartbeats 4000000 in
theorem penMsg5 {w0 w : World} {p : Nat} {l0 : List Int} (hI : IsPen w w0.heap.size p l0) (hB : Below w0.heap.size w0 w) (hp : w0.heap.size ≤ p) (m : MsgD) {A8 A12 A16 : Option Addr} {c8 c12 c16 : Nat} (hm : MsgC w0 m A8 c8 A12 c12 A16 c16) (ho : OkM m) (hk : m.f0 = 5) (hpl : m.f10.f3.length ≤ 16384) (hs : l0.length + 200000000 < 140737488355328) :
  Calls Tryz.prog 50 #[.pointer (some ⟨p, 0, none⟩), .agg #[.int .i64 m.f0, .int .i64 m.f1, .int .i64 m.f2, .int .i64 m.f3, .int .i64 m.f4, .int .i64 m.f5, .int .i64 m.f6, .bool m.f7, .slice A8 m.f8.length c8, .int .i64 m.f9.f0, .int .i64 m.f9.f1, .int .i64 m.f9.f2, .slice A12 m.f9.f3.length c12, .int .i64 m.f10.f0, .int .i64 m.f10.f1, .int .i64 m.f10.f2, .slice A16 m.f10.f3.length c16]] w fun e w' => PenP w0 w p (l0 ++ msgB m) e w' := by
 have HO := Lib.hid ho; have HM := Lib.hid hm; have HP := Lib.hid hp; have HS := Lib.hid hs; have HL0 := Lib.hid (show l0.length ≤ l0.length + 0 from Nat.le_refl _)
 have HNE := Lib.hid (show w.heap.size ≠ p by have := hI.lt; omega)
 have H0 := Lib.hid (hI.below ((Below.refl _ w).alloc (Nat.le_refl _) (.cells #[.int .i64 m.f0, .int .i64 m.f1, .int .i64 m.f2, .int .i64 m.f3, .int .i64 m.f4, .int .i64 m.f5, .int .i64 m.f6, .bool m.f7, .slice A8 m.f8.length c8, .int .i64 m.f9.f0, .int .i64 m.f9.f1, .int .i64 m.f9.f2, .slice A12 m.f9.f3.length c12, .int .i64 m.f10.f0, .int .i64 m.f10.f1, .int .i64 m.f10.f2, .slice A16 m.f10.f3.length c16] 34))); have HB0 := Lib.hid (hB.alloc hB.size (.cells #[.int .i64 m.f0, .int .i64 m.f1, .int .i64 m.f2, .int .i64 m.f3, .int .i64 m.f4, .int .i64 m.f5, .int .i64 m.f6, .bool m.f7, .slice A8 m.f8.length c8, .int .i64 m.f9.f0, .int .i64 m.f9.f1, .int .i64 m.f9.f2, .slice A12 m.f9.f3.length c12, .int .i64 m.f10.f0, .int .i64 m.f10.f1, .int .i64 m.f10.f2, .slice A16 m.f10.f3.length c16] 34)); have HK0 := Lib.hid ((KeepS.refl (fun i => i = p) w).alloc (.cells #[.int .i64 m.f0, .int .i64 m.f1, .int .i64 m.f2, .int .i64 m.f3, .int .i64 m.f4, .int .i64 m.f5, .int .i64 m.f6, .bool m.f7, .slice A8 m.f8.length c8, .int .i64 m.f9.f0, .int .i64 m.f9.f1, .int .i64 m.f9.f2, .slice A12 m.f9.f3.length c12, .int .i64 m.f10.f0, .int .i64 m.f10.f1, .int .i64 m.f10.f2, .slice A16 m.f10.f3.length c16] 34))
 have HX0 := Lib.hid (show MsBox (w.alloc (.cells #[.int .i64 m.f0, .int .i64 m.f1, .int .i64 m.f2, .int .i64 m.f3, .int .i64 m.f4, .int .i64 m.f5, .int .i64 m.f6, .bool m.f7, .slice A8 m.f8.length c8, .int .i64 m.f9.f0, .int .i64 m.f9.f1, .int .i64 m.f9.f2, .slice A12 m.f9.f3.length c12, .int .i64 m.f10.f0, .int .i64 m.f10.f1, .int .i64 m.f10.f2, .slice A16 m.f10.f3.length c16] 34)) w.heap.size m A8 c8 A12 c12 A16 c16 from heap_alloc_new w _)
 have HT6 := Lib.hid (show okI [m.f3, m.f4, m.f5, m.f10.f0, m.f10.f1, m.f10.f2] = true by have h1 := ho.t; have h2 := ho.p; simp only [okI_cons] at h1 h2 ⊢; exact ⟨h1.1, h1.2.1, h1.2.2.1, h2.1, h2.2.1, h2.2.2.1, rfl⟩)
 have HPL := Lib.hid hpl
 have q1 : (m.f0 == 1) = false := by rw [hk]; rfl
 have q2 : (m.f0 == 2) = false := by rw [hk]; rfl
 have q3 : (m.f0 == 3) = false := by rw [hk]; rfl
 have q4 : (m.f0 == 4) = false := by rw [hk]; rfl
 have q5 : (m.f0 == 5) = true := by rw [hk]; rfl
 have HTB := Lib.hid (show msgB m = numsB [m.f0, m.f1, m.f2] ++ (numsB [m.f3, m.f4, m.f5, m.f10.f0, m.f10.f1, m.f10.f2] ++ numB m.f10.f3.length ++ m.f10.f3) by unfold msgB tailB; simp only [hk]; rfl)
 clear hI hB hp hs ho hm hk hpl
 go_enter Tryz.func50, Tryz.ntmps50
 go_upto_region 1 with fail
 obtain ⟨v0, hv⟩ : ∃ v, w.alloc (.cells #[.int .i64 m.f0, .int .i64 m.f1, .int .i64 m.f2, .int .i64 m.f3, .int .i64 m.f4, .int .i64 m.f5, .int .i64 m.f6, .bool m.f7, .slice A8 m.f8.length c8, .int .i64 m.f9.f0, .int .i64 m.f9.f1, .int .i64 m.f9.f2, .slice A12 m.f9.f3.length c12, .int .i64 m.f10.f0, .int .i64 m.f10.f1, .int .i64 m.f10.f2, .slice A16 m.f10.f3.length c16] 34) = v := ⟨_, rfl⟩
 obtain ⟨b, hb⟩ : ∃ b, w.heap.size = b := ⟨_, rfl⟩
 rw [hv] at H0 HB0 HK0 HX0 ⊢
 rw [hb] at HNE HX0 ⊢
 clear hv hb
 obtain ⟨la0, hl0⟩ : ∃ la, l0 = la := ⟨_, rfl⟩
 have HQ0 := Lib.hid hl0
 have HLZ := Lib.hid (show la0.length ≤ l0.length + 0 by rw [← hl0]; exact Nat.le_refl _)
 rw [hl0] at H0
 clear hl0 HL0
 have HL0 := HLZ
 have HD := Lib.hid (show Below v0.heap.size v0 v0.drew from (Below.refl _ _).drew)
 have Hd := Lib.hid (H0.out.below HD.out); have HBd := Lib.hid HB0.out.drew; have HKd := Lib.hid HK0.out.drew; have HXd := Lib.hid (show MsBox v0.drew b m A8 c8 A12 c12 A16 c16 from HX0.out)
 clear HD
 obtain ⟨d0, d1, d2, d3, d4, d5, d6, d7, d8, d9, d10, d11, d12, d13, d14, d15, d16⟩ := HXd.out.cell
 refine start_ (n := 11) (S := fun w' => w'.cell? ⟨b, 0, none⟩ = some (.int .i64 m.f0) ∧ w'.cell? ⟨b, 1, none⟩ = some (.int .i64 m.f1) ∧ w'.cell? ⟨b, 2, none⟩ = some (.int .i64 m.f2)) (ds := []) #[false, false, false, false, false, false, false, false, false, false, false] (by kernel_rfl) rfl rfl ⟨d0, d1, d2⟩ (fun hHeld => ?_)
 obtain ⟨u, hu⟩ : ∃ u, v0.drew = u := ⟨_, rfl⟩
 rw [hu] at Hd HBd HKd HXd hHeld ⊢
 clear hu d0 d1 d2 d3 d4 d5 d6 d7 d8 d9 d10 d11 d12 d13 d14 d15 d16
 refine pure_ (i := 0) (N := some 6) (v := ?_) (a' := ?_) #[true, false, false, false, false, false, false, false, false, false, false] rfl rfl (by kernel_rfl) (fun _ _ _ h => h) (Or.inl ⟨by rfl, ?_⟩) ?_ ?_
 rotate_left
 ·intro w'
  go_simp
  try with_reducible rfl
 rotate_left
 ·simp only [Act.put, sq1, sq2, sq3, i64_w, i32_w]
  rfl
 refine pure_ (i := 1) (N := some 7) (v := ?_) (a' := ?_) #[true, true, false, false, false, false, false, false, false, false, false] rfl rfl (by kernel_rfl) (fun _ _ _ h => h) (Or.inl ⟨by rfl, ?_⟩) ?_ ?_
 rotate_left
 ·intro w'
  go_simp
  try with_reducible rfl
 rotate_left
 ·simp only [Act.put, sq1, sq2, sq3, i64_w, i32_w]
  rfl
 refine pure_ (i := 2) (N := some 8) (v := ?_) (a' := ?_) #[true, true, true, false, false, false, false, false, false, false, false] rfl rfl (by kernel_rfl) (fun _ _ _ h => h) (Or.inl ⟨by rfl, ?_⟩) ?_ ?_
 rotate_left
 ·intro w'
  go_simp
  try with_reducible rfl
 rotate_left
 ·simp only [Act.put, sq1, sq2, sq3, i64_w, i32_w]
  rfl
 refine pure_ (i := 3) (N := some 9) (v := ?_) (a' := ?_) #[true, true, true, true, false, false, false, false, false, false, false] rfl rfl (by kernel_rfl) (fun _ _ _ h => h) (Or.inl ⟨by rfl, ?_⟩) ?_ ?_
 rotate_left
 ·intro w'
  go_simp
  try with_reducible rfl
 rotate_left
 ·simp only [Act.put, sq1, sq2, sq3, i64_w, i32_w]
  rfl
 refine take_ (i := 4) (N := some 10) (v := ?_) (a' := ?_) #[true, true, true, true, true, false, false, false, false, false, false] rfl rfl (by kernel_rfl) (fun _ _ _ h => h) (Or.inl ⟨by rfl, ?_⟩) hHeld ?_ ?_
 rotate_left
 ·intro w' hS
  obtain ⟨x0, x1, x2⟩ := hS
  go_simp
  try with_reducible rfl
 rotate_left
 ·simp only [Act.put, sq1, sq2, sq3, i64_w, i32_w]
  rfl
 refine pure_ (i := 5) (N := some 11) (v := ?_) (a' := ?_) #[true, true, true, true, true, true, false, false, false, false, false] rfl rfl (by kernel_rfl) (fun _ _ _ h => h) (Or.inl ⟨by rfl, ?_⟩) ?_ ?_
 rotate_left
 ·intro w'
  go_simp
  try with_reducible rfl
 rotate_left
 ·simp only [Act.put, sq1, sq2, sq3, i64_w, i32_w]
  rfl
 refine take_ (i := 6) (N := some 12) (v := ?_) (a' := ?_) #[true, true, true, true, true, true, true, false, false, false, false] rfl rfl (by kernel_rfl) (fun _ _ _ h => h) (Or.inl ⟨by rfl, ?_⟩) hHeld ?_ ?_
 rotate_left
 ·intro w' hS
  obtain ⟨x0, x1, x2⟩ := hS
  go_simp
  try with_reducible rfl
 rotate_left
 ·simp only [Act.put, sq1, sq2, sq3, i64_w, i32_w]
  rfl
 refine pure_ (i := 7) (N := some 13) (v := ?_) (a' := ?_) #[true, true, true, true, true, true, true, true, false, false, false] rfl rfl (by kernel_rfl) (fun _ _ _ h => h) (Or.inl ⟨by rfl, ?_⟩) ?_ ?_
 rotate_left
 ·intro w'
  go_simp
  try with_reducible rfl
 rotate_left
 ·simp only [Act.put, sq1, sq2, sq3, i64_w, i32_w]
  rfl
 refine take_ (i := 8) (N := some 14) (v := ?_) (a' := ?_) #[true, true, true, true, true, true, true, true, true, false, false] rfl rfl (by kernel_rfl) (fun _ _ _ h => h) (Or.inl ⟨by rfl, ?_⟩) hHeld ?_ ?_
 rotate_left
 ·intro w' hS
  obtain ⟨x0, x1, x2⟩ := hS
  go_simp
  try with_reducible rfl
 rotate_left
 ·simp only [Act.put, sq1, sq2, sq3, i64_w, i32_w]
  rfl
 refine one_ (i := 9) (N := some 15) #[true, true, true, true, true, true, true, true, true, true, false] rfl rfl (by kernel_rfl) (by decide) (fun K hK => ?_)
 refine value_ (w1 := ?_) (v := ?_) (by rfl) rfl ?_ ?_
 rotate_left 2
 ·go_simp
  constructor <;> rfl
 have hba := (Below.refl _ u).alloc (Nat.le_refl _) (.cells #[.int .i64 m.f0, .int .i64 m.f1, .int .i64 m.f2] 2)
 have HXe := Lib.hid (show MsBox (u.alloc (.cells #[.int .i64 m.f0, .int .i64 m.f1, .int .i64 m.f2] 2)) b m A8 c8 A12 c12 A16 c16 from HXd.out.below hba); have He := Lib.hid (Hd.out.below hba); have HBe := Lib.hid (HBd.out.alloc HBd.out.size (.cells #[.int .i64 m.f0, .int .i64 m.f1, .int .i64 m.f2] 2)); have HKe := Lib.hid (HKd.out.alloc (.cells #[.int .i64 m.f0, .int .i64 m.f1, .int .i64 m.f2] 2))
 clear hba
 obtain ⟨d0, d1, d2, d3, d4, d5, d6, d7, d8, d9, d10, d11, d12, d13, d14, d15, d16⟩ := HXe.out.cell
 refine hK.out _ _ ⟨d0, d1, d2⟩ (fun hHeld => ?_)
 clear hK K
 clear d0 d1 d2 d3 d4 d5 d6 d7 d8 d9 d10 d11 d12 d13 d14 d15 d16
 refine norm_ (a' := ?_) ?_ ?_
 rotate_left
 ·show Act.put _ (some 15) _ = _
  simp only [Act.put, sq1, sq2, sq3, i64_w, i32_w]
  rfl
 refine one_ (i := 10) (N := some 16) #[true, true, true, true, true, true, true, true, true, true, true] rfl rfl (by kernel_rfl) (by decide) (fun K hK => ?_)
 go_simp
 refine (nums_is He.out HBe.out HP.out _ 3 [m.f0, m.f1, m.f2] (C_lit u [m.f0, m.f1, m.f2] (by simp)) HO.out.h (by have := HS.out; have := HL0.out; simp only [List.length_cons, List.length_nil]; omega)).mono ?_
 rintro e v1 ⟨rfl, h1, h2, h3⟩
 obtain ⟨la1, hla⟩ : ∃ la, la0 ++ numsB [m.f0, m.f1, m.f2] = la := ⟨_, rfl⟩
 have HL1 := Lib.hid (show la1.length ≤ l0.length + 27 by rw [← hla]; have h8 := HL0.out; have h9 : (numsB [m.f0, m.f1, m.f2]).length ≤ 27 := numsB_le HO.out.h _ (by simp); simp only [List.length_append] at h9 ⊢; omega)
 have HQ1 := Lib.hid hla
 have H1 := Lib.hid (show IsPen v1 w0.heap.size p la1 by rw [← hla]; simpa only [List.append_assoc] using h1); have HB1 := Lib.hid h2; have HK1 := Lib.hid (HKe.out.trans h3); have HX1 := Lib.hid (HXe.out.keep h3 HNE.out)
 clear h1 h2 h3 hla
 obtain ⟨d0, d1, d2, d3, d4, d5, d6, d7, d8, d9, d10, d11, d12, d13, d14, d15, d16⟩ := HX1.out.cell
 refine hK.out _ _ ⟨d0, d1, d2⟩ (fun hHeld => ?_)
 clear hK K
 clear d0 d1 d2 d3 d4 d5 d6 d7 d8 d9 d10 d11 d12 d13 d14 d15 d16
 refine done_ (by kernel_rfl) ?_
 obtain ⟨d0, d1, d2, d3, d4, d5, d6, d7, d8, d9, d10, d11, d12, d13, d14, d15, d16⟩ := HX1.out.cell
 go_upto_region 22 with fail
 clear d0 d1 d2 d3 d4 d5 d6 d7 d8 d9 d10 d11 d12 d13 d14 d15 d16
 have HD := Lib.hid (show Below v1.heap.size v1 v1.drew from (Below.refl _ _).drew)
 have Hd := Lib.hid (H1.out.below HD.out); have HBd := Lib.hid HB1.out.drew; have HKd := Lib.hid HK1.out.drew; have HXd := Lib.hid (show MsBox v1.drew b m A8 c8 A12 c12 A16 c16 from HX1.out)
 clear HD
 obtain ⟨d0, d1, d2, d3, d4, d5, d6, d7, d8, d9, d10, d11, d12, d13, d14, d15, d16⟩ := HXd.out.cell
 refine start_ (n := 20) (S := fun w' => w'.cell? ⟨b, 3, none⟩ = some (.int .i64 m.f3) ∧ w'.cell? ⟨b, 4, none⟩ = some (.int .i64 m.f4) ∧ w'.cell? ⟨b, 5, none⟩ = some (.int .i64 m.f5) ∧ w'.cell? ⟨b, 13, none⟩ = some (.int .i64 m.f10.f0) ∧ w'.cell? ⟨b, 14, none⟩ = some (.int .i64 m.f10.f1) ∧ w'.cell? ⟨b, 15, none⟩ = some (.int .i64 m.f10.f2)) (ds := []) #[false, false, false, false, false, false, false, false, false, false, false, false, false, false, false, false, false, false, false, false] (by kernel_rfl) rfl rfl ⟨d3, d4, d5, d13, d14, d15⟩ (fun hHeld => ?_)
 obtain ⟨u, hu⟩ : ∃ u, v1.drew = u := ⟨_, rfl⟩
 rw [hu] at Hd HBd HKd HXd hHeld ⊢
 clear hu d0 d1 d2 d3 d4 d5 d6 d7 d8 d9 d10 d11 d12 d13 d14 d15 d16
 refine pure_ (i := 0) (N := some 108) (v := ?_) (a' := ?_) #[true, false, false, false, false, false, false, false, false, false, false, false, false, false, false, false, false, false, false, false] rfl rfl (by kernel_rfl) (fun _ _ _ h => h) (Or.inl ⟨by rfl, ?_⟩) ?_ ?_
 rotate_left
 ·intro w'
  go_simp
  try with_reducible rfl
 rotate_left
 ·simp only [Act.put, sq1, sq2, sq3, i64_w, i32_w]
  rfl
 refine pure_ (i := 1) (N := some 109) (v := ?_) (a' := ?_) #[true, true, false, false, false, false, false, false, false, false, false, false, false, false, false, false, false, false, false, false] rfl rfl (by kernel_rfl) (fun _ _ _ h => h) (Or.inl ⟨by rfl, ?_⟩) ?_ ?_
 rotate_left
 ·intro w'
  go_simp
  try with_reducible rfl
 rotate_left
 ·simp only [Act.put, sq1, sq2, sq3, i64_w, i32_w]
  rfl
 refine pure_ (i := 2) (N := some 110) (v := ?_) (a' := ?_) #[true, true, true, false, false, false, false, false, false, false, false, false, false, false, false, false, false, false, false, false] rfl rfl (by kernel_rfl) (fun _ _ _ h => h) (Or.inl ⟨by rfl, ?_⟩) ?_ ?_
 rotate_left
 ·intro w'
  go_simp
  try with_reducible rfl
 rotate_left
 ·simp only [Act.put, sq1, sq2, sq3, i64_w, i32_w]
  rfl
 refine pure_ (i := 3) (N := some 111) (v := ?_) (a' := ?_) #[true, true, true, true, false, false, false, false, false, false, false, false, false, false, false, false, false, false, false, false] rfl rfl (by kernel_rfl) (fun _ _ _ h => h) (Or.inl ⟨by rfl, ?_⟩) ?_ ?_
 rotate_left
 ·intro w'
  go_simp
  try with_reducible rfl
 rotate_left
 ·simp only [Act.put, sq1, sq2, sq3, i64_w, i32_w]
  rfl
 refine take_ (i := 4) (N := some 112) (v := ?_) (a' := ?_) #[true, true, true, true, true, false, false, false, false, false, false, false, false, false, false, false, false, false, false, false] rfl rfl (by kernel_rfl) (fun _ _ _ h => h) (Or.inl ⟨by rfl, ?_⟩) hHeld ?_ ?_
 rotate_left
 ·intro w' hS
  obtain ⟨x3, x4, x5, x13, x14, x15⟩ := hS
  go_simp
  try with_reducible rfl
 rotate_left
 ·simp only [Act.put, sq1, sq2, sq3, i64_w, i32_w]
  rfl
 refine pure_ (i := 5) (N := some 113) (v := ?_) (a' := ?_) #[true, true, true, true, true, true, false, false, false, false, false, false, false, false, false, false, false, false, false, false] rfl rfl (by kernel_rfl) (fun _ _ _ h => h) (Or.inl ⟨by rfl, ?_⟩) ?_ ?_
 rotate_left
 ·intro w'
  go_simp
  try with_reducible rfl
 rotate_left
 ·simp only [Act.put, sq1, sq2, sq3, i64_w, i32_w]
  rfl
 refine take_ (i := 6) (N := some 114) (v := ?_) (a' := ?_) #[true, true, true, true, true, true, true, false, false, false, false, false, false, false, false, false, false, false, false, false] rfl rfl (by kernel_rfl) (fun _ _ _ h => h) (Or.inl ⟨by rfl, ?_⟩) hHeld ?_ ?_
 rotate_left
 ·intro w' hS
  obtain ⟨x3, x4, x5, x13, x14, x15⟩ := hS
  go_simp
  try with_reducible rfl
 rotate_left
 ·simp only [Act.put, sq1, sq2, sq3, i64_w, i32_w]
  rfl
 refine pure_ (i := 7) (N := some 115) (v := ?_) (a' := ?_) #[true, true, true, true, true, true, true, true, false, false, false, false, false, false, false, false, false, false, false, false] rfl rfl (by kernel_rfl) (fun _ _ _ h => h) (Or.inl ⟨by rfl, ?_⟩) ?_ ?_
 rotate_left
 ·intro w'
  go_simp
  try with_reducible rfl
 rotate_left
 ·simp only [Act.put, sq1, sq2, sq3, i64_w, i32_w]
  rfl
 refine take_ (i := 8) (N := some 116) (v := ?_) (a' := ?_) #[true, true, true, true, true, true, true, true, true, false, false, false, false, false, false, false, false, false, false, false] rfl rfl (by kernel_rfl) (fun _ _ _ h => h) (Or.inl ⟨by rfl, ?_⟩) hHeld ?_ ?_
 rotate_left
 ·intro w' hS
  obtain ⟨x3, x4, x5, x13, x14, x15⟩ := hS
  go_simp
  try with_reducible rfl
 rotate_left
 ·simp only [Act.put, sq1, sq2, sq3, i64_w, i32_w]
  rfl
 refine pure_ (i := 9) (N := some 117) (v := ?_) (a' := ?_) #[true, true, true, true, true, true, true, true, true, true, false, false, false, false, false, false, false, false, false, false] rfl rfl (by kernel_rfl) (fun _ _ _ h => h) (Or.inl ⟨by rfl, ?_⟩) ?_ ?_
 rotate_left
 ·intro w'
  go_simp
  try with_reducible rfl
 rotate_left
 ·simp only [Act.put, sq1, sq2, sq3, i64_w, i32_w]
  rfl
 refine pure_ (i := 10) (N := some 118) (v := ?_) (a' := ?_) #[true, true, true, true, true, true, true, true, true, true, true, false, false, false, false, false, false, false, false, false] rfl rfl (by kernel_rfl) (fun _ _ _ h => h) (Or.inl ⟨by rfl, ?_⟩) ?_ ?_
 rotate_left
 ·intro w'
  go_simp
  try with_reducible rfl
 rotate_left
 ·simp only [Act.put, sq1, sq2, sq3, i64_w, i32_w]
  rfl
 refine take_ (i := 11) (N := some 119) (v := ?_) (a' := ?_) #[true, true, true, true, true, true, true, true, true, true, true, true, false, false, false, false, false, false, false, false] rfl rfl (by kernel_rfl) (fun _ _ _ h => h) (Or.inl ⟨by rfl, ?_⟩) hHeld ?_ ?_
 rotate_left
 ·intro w' hS
  obtain ⟨x3, x4, x5, x13, x14, x15⟩ := hS
  go_simp
  try with_reducible rfl
 rotate_left
 ·simp only [Act.put, sq1, sq2, sq3, i64_w, i32_w]
  rfl
 refine pure_ (i := 12) (N := some 120) (v := ?_) (a' := ?_) #[true, true, true, true, true, true, true, true, true, true, true, true, true, false, false, false, false, false, false, false] rfl rfl (by kernel_rfl) (fun _ _ _ h => h) (Or.inl ⟨by rfl, ?_⟩) ?_ ?_
 rotate_left
 ·intro w'
  go_simp
  try with_reducible rfl
 rotate_left
 ·simp only [Act.put, sq1, sq2, sq3, i64_w, i32_w]
  rfl
 refine pure_ (i := 13) (N := some 121) (v := ?_) (a' := ?_) #[true, true, true, true, true, true, true, true, true, true, true, true, true, true, false, false, false, false, false, false] rfl rfl (by kernel_rfl) (fun _ _ _ h => h) (Or.inl ⟨by rfl, ?_⟩) ?_ ?_
 rotate_left
 ·intro w'
  go_simp
  try with_reducible rfl
 rotate_left
 ·simp only [Act.put, sq1, sq2, sq3, i64_w, i32_w]
  rfl
 refine take_ (i := 14) (N := some 122) (v := ?_) (a' := ?_) #[true, true, true, true, true, true, true, true, true, true, true, true, true, true, true, false, false, false, false, false] rfl rfl (by kernel_rfl) (fun _ _ _ h => h) (Or.inl ⟨by rfl, ?_⟩) hHeld ?_ ?_
 rotate_left
 ·intro w' hS
  obtain ⟨x3, x4, x5, x13, x14, x15⟩ := hS
  go_simp
  try with_reducible rfl
 rotate_left
 ·simp only [Act.put, sq1, sq2, sq3, i64_w, i32_w]
  rfl
 refine pure_ (i := 15) (N := some 123) (v := ?_) (a' := ?_) #[true, true, true, true, true, true, true, true, true, true, true, true, true, true, true, true, false, false, false, false] rfl rfl (by kernel_rfl) (fun _ _ _ h => h) (Or.inl ⟨by rfl, ?_⟩) ?_ ?_
 rotate_left
 ·intro w'
  go_simp
  try with_reducible rfl
 rotate_left
 ·simp only [Act.put, sq1, sq2, sq3, i64_w, i32_w]
  rfl
 refine pure_ (i := 16) (N := some 124) (v := ?_) (a' := ?_) #[true, true, true, true, true, true, true, true, true, true, true, true, true, true, true, true, true, false, false, false] rfl rfl (by kernel_rfl) (fun _ _ _ h => h) (Or.inl ⟨by rfl, ?_⟩) ?_ ?_
 rotate_left
 ·intro w'
  go_simp
  try with_reducible rfl
 rotate_left
 ·simp only [Act.put, sq1, sq2, sq3, i64_w, i32_w]
  rfl
 refine take_ (i := 17) (N := some 125) (v := ?_) (a' := ?_) #[true, true, true, true, true, true, true, true, true, true, true, true, true, true, true, true, true, true, false, false] rfl rfl (by kernel_rfl) (fun _ _ _ h => h) (Or.inl ⟨by rfl, ?_⟩) hHeld ?_ ?_
 rotate_left
 ·intro w' hS
  obtain ⟨x3, x4, x5, x13, x14, x15⟩ := hS
  go_simp
  try with_reducible rfl
 rotate_left
 ·simp only [Act.put, sq1, sq2, sq3, i64_w, i32_w]
  rfl
 refine one_ (i := 18) (N := some 126) #[true, true, true, true, true, true, true, true, true, true, true, true, true, true, true, true, true, true, true, false] rfl rfl (by kernel_rfl) (by decide) (fun K hK => ?_)
 refine value_ (w1 := ?_) (v := ?_) (by rfl) rfl ?_ ?_
 rotate_left 2
 ·go_simp
  constructor <;> rfl
 have hba := (Below.refl _ u).alloc (Nat.le_refl _) (.cells #[.int .i64 m.f3, .int .i64 m.f4, .int .i64 m.f5, .int .i64 m.f10.f0, .int .i64 m.f10.f1, .int .i64 m.f10.f2] 2)
 have HXe := Lib.hid (show MsBox (u.alloc (.cells #[.int .i64 m.f3, .int .i64 m.f4, .int .i64 m.f5, .int .i64 m.f10.f0, .int .i64 m.f10.f1, .int .i64 m.f10.f2] 2)) b m A8 c8 A12 c12 A16 c16 from HXd.out.below hba); have He := Lib.hid (Hd.out.below hba); have HBe := Lib.hid (HBd.out.alloc HBd.out.size (.cells #[.int .i64 m.f3, .int .i64 m.f4, .int .i64 m.f5, .int .i64 m.f10.f0, .int .i64 m.f10.f1, .int .i64 m.f10.f2] 2)); have HKe := Lib.hid (HKd.out.alloc (.cells #[.int .i64 m.f3, .int .i64 m.f4, .int .i64 m.f5, .int .i64 m.f10.f0, .int .i64 m.f10.f1, .int .i64 m.f10.f2] 2))
 clear hba
 obtain ⟨d0, d1, d2, d3, d4, d5, d6, d7, d8, d9, d10, d11, d12, d13, d14, d15, d16⟩ := HXe.out.cell
 refine hK.out _ _ ⟨d3, d4, d5, d13, d14, d15⟩ (fun hHeld => ?_)
 clear hK K
 clear d0 d1 d2 d3 d4 d5 d6 d7 d8 d9 d10 d11 d12 d13 d14 d15 d16
 refine norm_ (a' := ?_) ?_ ?_
 rotate_left
 ·show Act.put _ (some 126) _ = _
  simp only [Act.put, sq1, sq2, sq3, i64_w, i32_w]
  rfl
 refine one_ (i := 19) (N := some 127) #[true, true, true, true, true, true, true, true, true, true, true, true, true, true, true, true, true, true, true, true] rfl rfl (by kernel_rfl) (by decide) (fun K hK => ?_)
 go_simp
 refine (nums_is He.out HBe.out HP.out _ 6 [m.f3, m.f4, m.f5, m.f10.f0, m.f10.f1, m.f10.f2] (C_lit u [m.f3, m.f4, m.f5, m.f10.f0, m.f10.f1, m.f10.f2] (by simp)) HT6.out (by have := HS.out; have := HL1.out; simp only [List.length_cons, List.length_nil]; omega)).mono ?_
 rintro e v2 ⟨rfl, h1, h2, h3⟩
 obtain ⟨la2, hla⟩ : ∃ la, la1 ++ numsB [m.f3, m.f4, m.f5, m.f10.f0, m.f10.f1, m.f10.f2] = la := ⟨_, rfl⟩
 have HL2 := Lib.hid (show la2.length ≤ l0.length + 81 by rw [← hla]; have h8 := HL1.out; have h9 : (numsB [m.f3, m.f4, m.f5, m.f10.f0, m.f10.f1, m.f10.f2]).length ≤ 54 := numsB_le HT6.out _ (by simp); simp only [List.length_append] at h9 ⊢; omega)
 have HQ2 := Lib.hid hla
 have H2 := Lib.hid (show IsPen v2 w0.heap.size p la2 by rw [← hla]; simpa only [List.append_assoc] using h1); have HB2 := Lib.hid h2; have HK2 := Lib.hid (HKe.out.trans h3); have HX2 := Lib.hid (HXe.out.keep h3 HNE.out)
 clear h1 h2 h3 hla
 obtain ⟨d0, d1, d2, d3, d4, d5, d6, d7, d8, d9, d10, d11, d12, d13, d14, d15, d16⟩ := HX2.out.cell
 refine hK.out _ _ ⟨d3, d4, d5, d13, d14, d15⟩ (fun hHeld => ?_)
 clear hK K
 clear d0 d1 d2 d3 d4 d5 d6 d7 d8 d9 d10 d11 d12 d13 d14 d15 d16
 refine done_ (by kernel_rfl) ?_
 obtain ⟨d0, d1, d2, d3, d4, d5, d6, d7, d8, d9, d10, d11, d12, d13, d14, d15, d16⟩ := HX2.out.cell
 go_upto_region 23 with fail
 clear d0 d1 d2 d3 d4 d5 d6 d7 d8 d9 d10 d11 d12 d13 d14 d15 d16
 have HD := Lib.hid (show Below v2.heap.size v2 v2.drew from (Below.refl _ _).drew)
 have Hd := Lib.hid (H2.out.below HD.out); have HBd := Lib.hid HB2.out.drew; have HKd := Lib.hid HK2.out.drew; have HXd := Lib.hid (show MsBox v2.drew b m A8 c8 A12 c12 A16 c16 from HX2.out)
 clear HD
 obtain ⟨d0, d1, d2, d3, d4, d5, d6, d7, d8, d9, d10, d11, d12, d13, d14, d15, d16⟩ := HXd.out.cell
 refine start_ (n := 7) (S := fun w' => w'.cell? ⟨b, 16, none⟩ = some (.slice A16 m.f10.f3.length c16)) (ds := []) #[false, false, false, false, false, false, false] (by kernel_rfl) rfl rfl d16 (fun hHeld => ?_)
 obtain ⟨u, hu⟩ : ∃ u, v2.drew = u := ⟨_, rfl⟩
 rw [hu] at Hd HBd HKd HXd hHeld ⊢
 clear hu d0 d1 d2 d3 d4 d5 d6 d7 d8 d9 d10 d11 d12 d13 d14 d15 d16
 refine pure_ (i := 0) (N := some 128) (v := ?_) (a' := ?_) #[true, false, false, false, false, false, false] rfl rfl (by kernel_rfl) (fun _ _ _ h => h) (Or.inl ⟨by rfl, ?_⟩) ?_ ?_
 rotate_left
 ·intro w'
  go_simp
  try with_reducible rfl
 rotate_left
 ·simp only [Act.put, sq1, sq2, sq3, i64_w, i32_w]
  rfl
 refine pure_ (i := 1) (N := some 129) (v := ?_) (a' := ?_) #[true, true, false, false, false, false, false] rfl rfl (by kernel_rfl) (fun _ _ _ h => h) (Or.inl ⟨by rfl, ?_⟩) ?_ ?_
 rotate_left
 ·intro w'
  go_simp
  try with_reducible rfl
 rotate_left
 ·simp only [Act.put, sq1, sq2, sq3, i64_w, i32_w]
  rfl
 refine pure_ (i := 2) (N := some 130) (v := ?_) (a' := ?_) #[true, true, true, false, false, false, false] rfl rfl (by kernel_rfl) (fun _ _ _ h => h) (Or.inl ⟨by rfl, ?_⟩) ?_ ?_
 rotate_left
 ·intro w'
  go_simp
  try with_reducible rfl
 rotate_left
 ·simp only [Act.put, sq1, sq2, sq3, i64_w, i32_w]
  rfl
 refine pure_ (i := 3) (N := some 131) (v := ?_) (a' := ?_) #[true, true, true, true, false, false, false] rfl rfl (by kernel_rfl) (fun _ _ _ h => h) (Or.inl ⟨by rfl, ?_⟩) ?_ ?_
 rotate_left
 ·intro w'
  go_simp
  try with_reducible rfl
 rotate_left
 ·simp only [Act.put, sq1, sq2, sq3, i64_w, i32_w]
  rfl
 refine pure_ (i := 4) (N := some 132) (v := ?_) (a' := ?_) #[true, true, true, true, true, false, false] rfl rfl (by kernel_rfl) (fun _ _ _ h => h) (Or.inl ⟨by rfl, ?_⟩) ?_ ?_
 rotate_left
 ·intro w'
  go_simp
  try with_reducible rfl
 rotate_left
 ·simp only [Act.put, sq1, sq2, sq3, i64_w, i32_w]
  rfl
 refine take_ (i := 5) (N := some 133) (v := ?_) (a' := ?_) #[true, true, true, true, true, true, false] rfl rfl (by kernel_rfl) (fun _ _ _ h => h) (Or.inl ⟨by rfl, ?_⟩) hHeld ?_ ?_
 rotate_left
 ·intro w' hS
  have x0 := hS
  go_simp
  try with_reducible rfl
 rotate_left
 ·simp only [Act.put, sq1, sq2, sq3, i64_w, i32_w]
  rfl
 refine one_ (i := 6) (N := some 134) #[true, true, true, true, true, true, true] rfl rfl (by kernel_rfl) (by decide) (fun K hK => ?_)
 go_simp
 refine (data_is Hd.out HBd.out HP.out A16 c16 m.f10.f3 (Kd.C_below HM.out.g16 HBd.out) HM.out.l16 (by have := HS.out; have := HL2.out; have := HPL.out; omega)).mono ?_
 rintro e v3 ⟨rfl, h1, h2, h3⟩
 obtain ⟨la3, hla⟩ : ∃ la, la2 ++ (numB m.f10.f3.length ++ m.f10.f3) = la := ⟨_, rfl⟩
 have HL3 := Lib.hid (show la3.length ≤ l0.length + 16481 by rw [← hla]; have h8 := HL2.out; have h9 : ((numB m.f10.f3.length ++ m.f10.f3)).length ≤ 16400 := (by have h7 := HPL.out; have h6 := (numB_len (n := (m.f10.f3.length : Int)) (by unfold isI64; omega)).2; simp only [List.length_append]; omega); simp only [List.length_append] at h9 ⊢; omega)
 have HQ3 := Lib.hid hla
 have H3 := Lib.hid (show IsPen v3 w0.heap.size p la3 by rw [← hla]; simpa only [List.append_assoc] using h1); have HB3 := Lib.hid h2; have HK3 := Lib.hid (HKd.out.trans h3); have HX3 := Lib.hid (HXd.out.keep h3 HNE.out)
 clear h1 h2 h3 hla
 obtain ⟨d0, d1, d2, d3, d4, d5, d6, d7, d8, d9, d10, d11, d12, d13, d14, d15, d16⟩ := HX3.out.cell
 refine hK.out _ _ d16 (fun hHeld => ?_)
 clear hK K
 clear d0 d1 d2 d3 d4 d5 d6 d7 d8 d9 d10 d11 d12 d13 d14 d15 d16
 refine done_ (by kernel_rfl) ?_
 have HF := Lib.hid (show IsPen v3 w0.heap.size p (l0 ++ msgB m) by
  have h1 := H3.out
  rw [← HQ3.out, ← HQ2.out, ← HQ1.out, ← HQ0.out] at h1
  rw [HTB.out]
  simpa only [List.append_assoc, numsB_one] using h1)
 go_wp2_with fail
 go_end0
 exact ⟨rfl, HF.out, HB3.out, HK3.out⟩
set_option maxHeartbeats 4000000 in
theorem penMsg6 {w0 w : World} {p : Nat} {l0 : List Int} (hI : IsPen w w0.heap.size p l0) (hB : Below w0.heap.size w0 w) (hp : w0.heap.size ≤ p) (m : MsgD) {A8 A12 A16 : Option Addr} {c8 c12 c16 : Nat} (hm : MsgC w0 m A8 c8 A12 c12 A16 c16) (ho : OkM m) (hk : m.f0 = 6) (hme : mayE m.f9.f0 m.f9.f1 m.f9.f2 m.f9.f3 = true) (hs : l0.length + 200000000 < 140737488355328) :
  Calls Tryz.prog 50 #[.pointer (some ⟨p, 0, none⟩), .agg #[.int .i64 m.f0, .int .i64 m.f1, .int .i64 m.f2, .int .i64 m.f3, .int .i64 m.f4, .int .i64 m.f5, .int .i64 m.f6, .bool m.f7, .slice A8 m.f8.length c8, .int .i64 m.f9.f0, .int .i64 m.f9.f1, .int .i64 m.f9.f2, .slice A12 m.f9.f3.length c12, .int .i64 m.f10.f0, .int .i64 m.f10.f1, .int .i64 m.f10.f2, .slice A16 m.f10.f3.length c16]] w fun e w' => PenP w0 w p (l0 ++ msgB m) e w' := by
 have HO := Lib.hid ho; have HM := Lib.hid hm; have HP := Lib.hid hp; have HS := Lib.hid hs; have HL0 := Lib.hid (show l0.length ≤ l0.length + 0 from Nat.le_refl _)
 have HNE := Lib.hid (show w.heap.size ≠ p by have := hI.lt; omega)
 have H0 := Lib.hid (hI.below ((Below.refl _ w).alloc (Nat.le_refl _) (.cells #[.int .i64 m.f0, .int .i64 m.f1, .int .i64 m.f2, .int .i64 m.f3, .int .i64 m.f4, .int .i64 m.f5, .int .i64 m.f6, .bool m.f7, .slice A8 m.f8.length c8, .int .i64 m.f9.f0, .int .i64 m.f9.f1, .int .i64 m.f9.f2, .slice A12 m.f9.f3.length c12, .int .i64 m.f10.f0, .int .i64 m.f10.f1, .int .i64 m.f10.f2, .slice A16 m.f10.f3.length c16] 34))); have HB0 := Lib.hid (hB.alloc hB.size (.cells #[.int .i64 m.f0, .int .i64 m.f1, .int .i64 m.f2, .int .i64 m.f3, .int .i64 m.f4, .int .i64 m.f5, .int .i64 m.f6, .bool m.f7, .slice A8 m.f8.length c8, .int .i64 m.f9.f0, .int .i64 m.f9.f1, .int .i64 m.f9.f2, .slice A12 m.f9.f3.length c12, .int .i64 m.f10.f0, .int .i64 m.f10.f1, .int .i64 m.f10.f2, .slice A16 m.f10.f3.length c16] 34)); have HK0 := Lib.hid ((KeepS.refl (fun i => i = p) w).alloc (.cells #[.int .i64 m.f0, .int .i64 m.f1, .int .i64 m.f2, .int .i64 m.f3, .int .i64 m.f4, .int .i64 m.f5, .int .i64 m.f6, .bool m.f7, .slice A8 m.f8.length c8, .int .i64 m.f9.f0, .int .i64 m.f9.f1, .int .i64 m.f9.f2, .slice A12 m.f9.f3.length c12, .int .i64 m.f10.f0, .int .i64 m.f10.f1, .int .i64 m.f10.f2, .slice A16 m.f10.f3.length c16] 34))
 have HX0 := Lib.hid (show MsBox (w.alloc (.cells #[.int .i64 m.f0, .int .i64 m.f1, .int .i64 m.f2, .int .i64 m.f3, .int .i64 m.f4, .int .i64 m.f5, .int .i64 m.f6, .bool m.f7, .slice A8 m.f8.length c8, .int .i64 m.f9.f0, .int .i64 m.f9.f1, .int .i64 m.f9.f2, .slice A12 m.f9.f3.length c12, .int .i64 m.f10.f0, .int .i64 m.f10.f1, .int .i64 m.f10.f2, .slice A16 m.f10.f3.length c16] 34)) w.heap.size m A8 c8 A12 c12 A16 c16 from heap_alloc_new w _)
 have HME := Lib.hid hme
 have q1 : (m.f0 == 1) = false := by rw [hk]; rfl
 have q2 : (m.f0 == 2) = false := by rw [hk]; rfl
 have q3 : (m.f0 == 3) = false := by rw [hk]; rfl
 have q4 : (m.f0 == 4) = false := by rw [hk]; rfl
 have q5 : (m.f0 == 5) = false := by rw [hk]; rfl
 have q6 : (m.f0 == 6) = true := by rw [hk]; rfl
 have HTB := Lib.hid (show msgB m = numsB [m.f0, m.f1, m.f2] ++ (entB m.f9.f0 m.f9.f1 m.f9.f2 m.f9.f3) by unfold msgB tailB; simp only [hk]; rfl)
 clear hI hB hp hs ho hm hk hme
 go_enter Tryz.func50, Tryz.ntmps50
 go_upto_region 1 with fail
 obtain ⟨v0, hv⟩ : ∃ v, w.alloc (.cells #[.int .i64 m.f0, .int .i64 m.f1, .int .i64 m.f2, .int .i64 m.f3, .int .i64 m.f4, .int .i64 m.f5, .int .i64 m.f6, .bool m.f7, .slice A8 m.f8.length c8, .int .i64 m.f9.f0, .int .i64 m.f9.f1, .int .i64 m.f9.f2, .slice A12 m.f9.f3.length c12, .int .i64 m.f10.f0, .int .i64 m.f10.f1, .int .i64 m.f10.f2, .slice A16 m.f10.f3.length c16] 34) = v := ⟨_, rfl⟩
 obtain ⟨b, hb⟩ : ∃ b, w.heap.size = b := ⟨_, rfl⟩
 rw [hv] at H0 HB0 HK0 HX0 ⊢
 rw [hb] at HNE HX0 ⊢
 clear hv hb
 obtain ⟨la0, hl0⟩ : ∃ la, l0 = la := ⟨_, rfl⟩
 have HQ0 := Lib.hid hl0
 have HLZ := Lib.hid (show la0.length ≤ l0.length + 0 by rw [← hl0]; exact Nat.le_refl _)
 rw [hl0] at H0
 clear hl0 HL0
 have HL0 := HLZ
 have HD := Lib.hid (show Below v0.heap.size v0 v0.drew from (Below.refl _ _).drew)
 have Hd := Lib.hid (H0.out.below HD.out); have HBd := Lib.hid HB0.out.drew; have HKd := Lib.hid HK0.out.drew; have HXd := Lib.hid (show MsBox v0.drew b m A8 c8 A12 c12 A16 c16 from HX0.out)
 clear HD
 obtain ⟨d0, d1, d2, d3, d4, d5, d6, d7, d8, d9, d10, d11, d12, d13, d14, d15, d16⟩ := HXd.out.cell
 refine start_ (n := 11) (S := fun w' => w'.cell? ⟨b, 0, none⟩ = some (.int .i64 m.f0) ∧ w'.cell? ⟨b, 1, none⟩ = some (.int .i64 m.f1) ∧ w'.cell? ⟨b, 2, none⟩ = some (.int .i64 m.f2)) (ds := []) #[false, false, false, false, false, false, false, false, false, false, false] (by kernel_rfl) rfl rfl ⟨d0, d1, d2⟩ (fun hHeld => ?_)
 obtain ⟨u, hu⟩ : ∃ u, v0.drew = u := ⟨_, rfl⟩
 rw [hu] at Hd HBd HKd HXd hHeld ⊢
 clear hu d0 d1 d2 d3 d4 d5 d6 d7 d8 d9 d10 d11 d12 d13 d14 d15 d16
 refine pure_ (i := 0) (N := some 6) (v := ?_) (a' := ?_) #[true, false, false, false, false, false, false, false, false, false, false] rfl rfl (by kernel_rfl) (fun _ _ _ h => h) (Or.inl ⟨by rfl, ?_⟩) ?_ ?_
 rotate_left
 ·intro w'
  go_simp
  try with_reducible rfl
 rotate_left
 ·simp only [Act.put, sq1, sq2, sq3, i64_w, i32_w]
  rfl
 refine pure_ (i := 1) (N := some 7) (v := ?_) (a' := ?_) #[true, true, false, false, false, false, false, false, false, false, false] rfl rfl (by kernel_rfl) (fun _ _ _ h => h) (Or.inl ⟨by rfl, ?_⟩) ?_ ?_
 rotate_left
 ·intro w'
  go_simp
  try with_reducible rfl
 rotate_left
 ·simp only [Act.put, sq1, sq2, sq3, i64_w, i32_w]
  rfl
 refine pure_ (i := 2) (N := some 8) (v := ?_) (a' := ?_) #[true, true, true, false, false, false, false, false, false, false, false] rfl rfl (by kernel_rfl) (fun _ _ _ h => h) (Or.inl ⟨by rfl, ?_⟩) ?_ ?_
 rotate_left
 ·intro w'
  go_simp
  try with_reducible rfl
 rotate_left
 ·simp only [Act.put, sq1, sq2, sq3, i64_w, i32_w]
  rfl
 refine pure_ (i := 3) (N := some 9) (v := ?_) (a' := ?_) #[true, true, true, true, false, false, false, false, false, false, false] rfl rfl (by kernel_rfl) (fun _ _ _ h => h) (Or.inl ⟨by rfl, ?_⟩) ?_ ?_
 rotate_left
 ·intro w'
  go_simp
  try with_reducible rfl
 rotate_left
 ·simp only [Act.put, sq1, sq2, sq3, i64_w, i32_w]
  rfl
 refine take_ (i := 4) (N := some 10) (v := ?_) (a' := ?_) #[true, true, true, true, true, false, false, false, false, false, false] rfl rfl (by kernel_rfl) (fun _ _ _ h => h) (Or.inl ⟨by rfl, ?_⟩) hHeld ?_ ?_
 rotate_left
 ·intro w' hS
  obtain ⟨x0, x1, x2⟩ := hS
  go_simp
  try with_reducible rfl
 rotate_left
 ·simp only [Act.put, sq1, sq2, sq3, i64_w, i32_w]
  rfl
 refine pure_ (i := 5) (N := some 11) (v := ?_) (a' := ?_) #[true, true, true, true, true, true, false, false, false, false, false] rfl rfl (by kernel_rfl) (fun _ _ _ h => h) (Or.inl ⟨by rfl, ?_⟩) ?_ ?_
 rotate_left
 ·intro w'
  go_simp
  try with_reducible rfl
 rotate_left
 ·simp only [Act.put, sq1, sq2, sq3, i64_w, i32_w]
  rfl
 refine take_ (i := 6) (N := some 12) (v := ?_) (a' := ?_) #[true, true, true, true, true, true, true, false, false, false, false] rfl rfl (by kernel_rfl) (fun _ _ _ h => h) (Or.inl ⟨by rfl, ?_⟩) hHeld ?_ ?_
 rotate_left
 ·intro w' hS
  obtain ⟨x0, x1, x2⟩ := hS
  go_simp
  try with_reducible rfl
 rotate_left
 ·simp only [Act.put, sq1, sq2, sq3, i64_w, i32_w]
  rfl
 refine pure_ (i := 7) (N := some 13) (v := ?_) (a' := ?_) #[true, true, true, true, true, true, true, true, false, false, false] rfl rfl (by kernel_rfl) (fun _ _ _ h => h) (Or.inl ⟨by rfl, ?_⟩) ?_ ?_
 rotate_left
 ·intro w'
  go_simp
  try with_reducible rfl
 rotate_left
 ·simp only [Act.put, sq1, sq2, sq3, i64_w, i32_w]
  rfl
 refine take_ (i := 8) (N := some 14) (v := ?_) (a' := ?_) #[true, true, true, true, true, true, true, true, true, false, false] rfl rfl (by kernel_rfl) (fun _ _ _ h => h) (Or.inl ⟨by rfl, ?_⟩) hHeld ?_ ?_
 rotate_left
 ·intro w' hS
  obtain ⟨x0, x1, x2⟩ := hS
  go_simp
  try with_reducible rfl
 rotate_left
 ·simp only [Act.put, sq1, sq2, sq3, i64_w, i32_w]
  rfl
 refine one_ (i := 9) (N := some 15) #[true, true, true, true, true, true, true, true, true, true, false] rfl rfl (by kernel_rfl) (by decide) (fun K hK => ?_)
 refine value_ (w1 := ?_) (v := ?_) (by rfl) rfl ?_ ?_
 rotate_left 2
 ·go_simp
  constructor <;> rfl
 have hba := (Below.refl _ u).alloc (Nat.le_refl _) (.cells #[.int .i64 m.f0, .int .i64 m.f1, .int .i64 m.f2] 2)
 have HXe := Lib.hid (show MsBox (u.alloc (.cells #[.int .i64 m.f0, .int .i64 m.f1, .int .i64 m.f2] 2)) b m A8 c8 A12 c12 A16 c16 from HXd.out.below hba); have He := Lib.hid (Hd.out.below hba); have HBe := Lib.hid (HBd.out.alloc HBd.out.size (.cells #[.int .i64 m.f0, .int .i64 m.f1, .int .i64 m.f2] 2)); have HKe := Lib.hid (HKd.out.alloc (.cells #[.int .i64 m.f0, .int .i64 m.f1, .int .i64 m.f2] 2))
 clear hba
 obtain ⟨d0, d1, d2, d3, d4, d5, d6, d7, d8, d9, d10, d11, d12, d13, d14, d15, d16⟩ := HXe.out.cell
 refine hK.out _ _ ⟨d0, d1, d2⟩ (fun hHeld => ?_)
 clear hK K
 clear d0 d1 d2 d3 d4 d5 d6 d7 d8 d9 d10 d11 d12 d13 d14 d15 d16
 refine norm_ (a' := ?_) ?_ ?_
 rotate_left
 ·show Act.put _ (some 15) _ = _
  simp only [Act.put, sq1, sq2, sq3, i64_w, i32_w]
  rfl
 refine one_ (i := 10) (N := some 16) #[true, true, true, true, true, true, true, true, true, true, true] rfl rfl (by kernel_rfl) (by decide) (fun K hK => ?_)
 go_simp
 refine (nums_is He.out HBe.out HP.out _ 3 [m.f0, m.f1, m.f2] (C_lit u [m.f0, m.f1, m.f2] (by simp)) HO.out.h (by have := HS.out; have := HL0.out; simp only [List.length_cons, List.length_nil]; omega)).mono ?_
 rintro e v1 ⟨rfl, h1, h2, h3⟩
 obtain ⟨la1, hla⟩ : ∃ la, la0 ++ numsB [m.f0, m.f1, m.f2] = la := ⟨_, rfl⟩
 have HL1 := Lib.hid (show la1.length ≤ l0.length + 27 by rw [← hla]; have h8 := HL0.out; have h9 : (numsB [m.f0, m.f1, m.f2]).length ≤ 27 := numsB_le HO.out.h _ (by simp); simp only [List.length_append] at h9 ⊢; omega)
 have HQ1 := Lib.hid hla
 have H1 := Lib.hid (show IsPen v1 w0.heap.size p la1 by rw [← hla]; simpa only [List.append_assoc] using h1); have HB1 := Lib.hid h2; have HK1 := Lib.hid (HKe.out.trans h3); have HX1 := Lib.hid (HXe.out.keep h3 HNE.out)
 clear h1 h2 h3 hla
 obtain ⟨d0, d1, d2, d3, d4, d5, d6, d7, d8, d9, d10, d11, d12, d13, d14, d15, d16⟩ := HX1.out.cell
 refine hK.out _ _ ⟨d0, d1, d2⟩ (fun hHeld => ?_)
 clear hK K
 clear d0 d1 d2 d3 d4 d5 d6 d7 d8 d9 d10 d11 d12 d13 d14 d15 d16
 refine done_ (by kernel_rfl) ?_
 obtain ⟨d0, d1, d2, d3, d4, d5, d6, d7, d8, d9, d10, d11, d12, d13, d14, d15, d16⟩ := HX1.out.cell
 clear d0 d1 d2 d3 d4 d5 d6 d7 d8 d9 d10 d11 d12 d13 d14 d15 d16
 obtain ⟨d0, d1, d2, d3, d4, d5, d6, d7, d8, d9, d10, d11, d12, d13, d14, d15, d16⟩ := HX1.out.cell
 go_wp2_with fail
 refine (penEntry_is H1.out HB1.out HP.out m.f9.f0 m.f9.f1 m.f9.f2 A12 c12 m.f9.f3 HM.out.g12 HO.out.e HME.out (by have := HS.out; have := HL1.out; omega)).mono ?_
 rintro e v2 ⟨rfl, h1, h2, h3⟩
 obtain ⟨la2, hla⟩ : ∃ la, la1 ++ entB m.f9.f0 m.f9.f1 m.f9.f2 m.f9.f3 = la := ⟨_, rfl⟩
 have HL2 := Lib.hid (show la2.length ≤ l0.length + 25027 by rw [← hla]; have h8 := HL1.out; have h9 : (entB m.f9.f0 m.f9.f1 m.f9.f2 m.f9.f3).length ≤ 25000 := entB_len HO.out.e HME.out; simp only [List.length_append] at h9 ⊢; omega)
 have HQ2 := Lib.hid hla
 have H2 := Lib.hid (show IsPen v2 w0.heap.size p la2 by rw [← hla]; simpa only [List.append_assoc] using h1); have HB2 := Lib.hid h2; have HK2 := Lib.hid (HK1.out.trans h3); have HX2 := Lib.hid (HX1.out.keep h3 HNE.out)
 clear h1 h2 h3 hla
 clear d0 d1 d2 d3 d4 d5 d6 d7 d8 d9 d10 d11 d12 d13 d14 d15 d16
 have HF := Lib.hid (show IsPen v2 w0.heap.size p (l0 ++ msgB m) by
  have h1 := H2.out
  rw [← HQ2.out, ← HQ1.out, ← HQ0.out] at h1
  rw [HTB.out]
  simpa only [List.append_assoc, numsB_one] using h1)
 go_wp2_with fail
 go_end0
 exact ⟨rfl, HF.out, HB2.out, HK2.out⟩
theorem penMsg_is {w0 w : World} {p : Nat} {l0 : List Int} (hI : IsPen w w0.heap.size p l0) (hB : Below w0.heap.size w0 w) (hp : w0.heap.size ≤ p) (m : MsgD) {A8 A12 A16 : Option Addr} {c8 c12 c16 : Nat} (hm : MsgC w0 m A8 c8 A12 c12 A16 c16) (ho : OkM m) (hy : mayMs m = true) (hs : l0.length + 200000000 < 140737488355328) :
  Calls Tryz.prog 50 #[.pointer (some ⟨p, 0, none⟩), .agg #[.int .i64 m.f0, .int .i64 m.f1, .int .i64 m.f2, .int .i64 m.f3, .int .i64 m.f4, .int .i64 m.f5, .int .i64 m.f6, .bool m.f7, .slice A8 m.f8.length c8, .int .i64 m.f9.f0, .int .i64 m.f9.f1, .int .i64 m.f9.f2, .slice A12 m.f9.f3.length c12, .int .i64 m.f10.f0, .int .i64 m.f10.f1, .int .i64 m.f10.f2, .slice A16 m.f10.f3.length c16]] w fun e w' => PenP w0 w p (l0 ++ msgB m) e w' := by
 unfold mayMs at hy
 simp only [Bool.and_eq_true] at hy
 obtain ⟨_, _, _, hk, _, h8, hl, h5, h6⟩ := hy
 have h : m.f0 = 1 ∨ m.f0 = 2 ∨ m.f0 = 3 ∨ m.f0 = 4 ∨ m.f0 = 5 ∨ m.f0 = 6 := by
  unfold isKind at hk
  simp only [Bool.and_eq_true, decide_eq_true_eq] at hk
  omega
 rcases h with h | h | h | h | h | h
 ·exact penMsg1 hI hB hp m hm ho h hs
 ·exact penMsg2 hI hB hp m hm ho h hs
 ·exact penMsg3 hI hB hp m hm ho h hl (by have := of_decide_eq_true h8; omega) hs
 ·exact penMsg4 hI hB hp m hm ho h hs
 ·rw [h] at h5
  have h7 : mayPt m.f10 = true := by simpa using h5
  unfold mayPt at h7
  simp only [Bool.and_eq_true, decide_eq_true_eq] at h7
  exact penMsg5 hI hB hp m hm ho h (by have := h7.2.2.2; omega) hs
 ·rw [h] at h6
  exact penMsg6 hI hB hp m hm ho h (by simpa using h6) hs
end Go.Proofs.YtgiefblcckikeaaGreat.M
end

section
/- A function that reads with a state at x, before its struct variable is laid; and the end of a frame. -/
namespace Go.Proofs.YtgiefblcckikeaaGreat.M
open Go.RowKit Go.Proofs.YtgiefblcckikeaaGreatW.PrintWords Go.Proofs.YtgiefblcckikeaaGreatW.PrintLast Go.Proofs.YtgiefblcckikeaaGreatW.PrintMore Go.Proofs.YtgiefblcckikeaaGreat.G
structure Fo (I : World → EyeS → Prop) (w0 w : World) (x T : Nat) (zs : Array Value) (s : EyeS) (W : World) : Prop where
 g0 : W.heap[w.heap.size]? = some (.cells zs T)
 i : I W s
 d : Below w0.heap.size w0 W
 q : KeepS (fun i => i = x) w W
 hz : w.heap.size < W.heap.size
 hx : x < w.heap.size
 hw : w0.heap.size ≤ x
 at_ : ∀ (W W' : World) (s : EyeS), W'.heap[x]? = W.heap[x]? → I W s → I W' s
section
variable {I : World → EyeS → Prop} {w0 w W W' : World} {x g T : Nat} {zs cs : Array Value} {s s' : EyeS} {P Q : World → Prop}
theorem Fo.start (hI : I w s) (hB : Below w0.heap.size w0 w) (hlt : x < w.heap.size) (hge : w0.heap.size ≤ x) (at_ : ∀ (W W' : World) (s : EyeS), W'.heap[x]? = W.heap[x]? → I W s → I W' s) : Fo I w0 w x T zs s (w.alloc (.cells zs T)) := by
 have hb := (Below.refl _ w).alloc (Nat.le_refl _) (.cells zs T)
 exact ⟨heap_alloc_new w _, at_ _ _ _ (hb.block x hlt) hI, hB.alloc hB.size _, KeepS.of_below _ hb, by simp, hlt, hge, at_⟩
theorem Fo.call (h : Fo I w0 w x T zs s W) (i : I W' s') (d : Below w0.heap.size w0 W') (k : KeepS (fun i => i = x) W W') : Fo I w0 w x T zs s' W' :=
 ⟨(k.block _ h.hz (by have := h.hx; omega)).trans h.g0, i, d, h.q.trans k, Nat.lt_of_lt_of_le h.hz k.size, h.hx, h.hw, h.at_⟩
theorem Fo.lay (h : Fo I w0 w x T zs s W) (cs : Array Value) : Fr I w0 w x W.heap.size T zs cs s (fun _ => True) (W.alloc (.cells cs T)) := by
 have hb := (Below.refl _ W).alloc (Nat.le_refl _) (.cells cs T)
 have hx := h.hx; have hz := h.hz; have hd := h.d.size
 exact ⟨(hb.block _ h.hz).trans h.g0, heap_alloc_new W _, h.at_ _ _ _ (hb.block x (by omega)) h.i, h.d.alloc hd _, h.q.then_base (hb.mono (by omega)), h.hz, by simp, h.hx, h.hw, Held.true _ _, h.at_⟩
theorem Fo.put (h : Fo I w0 w x T zs s W) (j : Nat) (v : Value) : Fo I w0 w x T (zs.setIfInBounds j v) s (W.setCell ⟨w.heap.size, j, none⟩ v) := by
 have hx := h.hx; have hz := h.hz; have hd := h.d.size; have hw := h.hw
 exact ⟨blk_put h.g0 j v rfl, h.at_ _ _ _ (Below.heap_setCell W ⟨w.heap.size, j, none⟩ v x (by show x ≠ w.heap.size; omega)) h.i, h.d.setCell (p := ⟨w.heap.size, j, none⟩) (by show w0.heap.size ≤ w.heap.size; omega) v, h.q.set (p := ⟨w.heap.size, j, none⟩) (.inr (Nat.le_refl _)) v, by rw [World.size_setCell]; exact hz, h.hx, h.hw, h.at_⟩
theorem Fo.done (h : Fo I w0 w x T zs s W) (hk : KeepS (fun k => k = w.heap.size) W W') : I W' s ∧ Below w0.heap.size w0 W' ∧ KeepS (fun i => i = x) w W' := by
 have hx := h.hx; have hz := h.hz; have hd := h.d.size; have hw := h.hw
 exact ⟨h.at_ _ _ _ (hk.block x (by omega) (by show ¬ x = w.heap.size; omega)) h.i, h.d.trans (hk.below hd (by rintro i rfl; omega)), h.q.then_base (hk.below (B := w.heap.size) (by omega) (by rintro i rfl; omega))⟩
theorem Fr.fin (h : Fr I w0 w x g T zs cs s P W) {cs' : Array Value} : (W.setRow w.heap.size cs').heap[w.heap.size]? = some (.cells cs' T) ∧ P (W.setRow w.heap.size cs') ∧ I (W.setRow w.heap.size cs') s ∧ Below w0.heap.size w0 (W.setRow w.heap.size cs') ∧ KeepS (fun i => i = x) w (W.setRow w.heap.size cs') := by
 have hk : KeepS (fun k => k = w.heap.size ∨ k = g) W (W.setRow w.heap.size cs') := ⟨rfl, rfl, rfl, by simp, fun i _ hi => setRow_other W w.heap.size i cs' (fun e => hi (.inl e))⟩
 exact ⟨setRow_heap W w.heap.size zs cs' T (0, 0) h.g0, h.done hk⟩
theorem Fo.fin (h : Fo I w0 w x T zs s W) {cs' : Array Value} : (W.setRow w.heap.size cs').heap[w.heap.size]? = some (.cells cs' T) ∧ I (W.setRow w.heap.size cs') s ∧ Below w0.heap.size w0 (W.setRow w.heap.size cs') ∧ KeepS (fun i => i = x) w (W.setRow w.heap.size cs') := by
 have hk : KeepS (fun k => k = w.heap.size) W (W.setRow w.heap.size cs') := ⟨rfl, rfl, rfl, by simp, fun i _ hi => setRow_other W w.heap.size i cs' (fun e => hi e)⟩
 exact ⟨setRow_heap W w.heap.size zs cs' T (0, 0) h.g0, h.done hk⟩
end
def MsP (I : World → EyeS → Prop) (w0 w : World) (x : Nat) (y : MsgD) (s' : EyeS) (e : Ending) (w' : World) : Prop := ∃ v8 v12 v16 : Value, e = .returned (.agg #[.int .i64 y.f0, .int .i64 y.f1, .int .i64 y.f2, .int .i64 y.f3, .int .i64 y.f4, .int .i64 y.f5, .int .i64 y.f6, .bool y.f7, v8, .int .i64 y.f9.f0, .int .i64 y.f9.f1, .int .i64 y.f9.f2, v12, .int .i64 y.f10.f0, .int .i64 y.f10.f1, .int .i64 y.f10.f2, v16]) ∧ Kd.R G.k63 63 w' w.heap.size (fun _ => True) v8 y.f8 ∧ Kd.R G.k26 26 w' w.heap.size (fun _ => True) v12 y.f9.f3 ∧ Kd.R (Kd.int .u8) 5 w' w.heap.size (fun _ => True) v16 y.f10.f3 ∧ I w' s' ∧ Below w0.heap.size w0 w' ∧ KeepS (fun i => i = x) w w'
end Go.Proofs.YtgiefblcckikeaaGreat.M
end

section
/- The eye's lists: yes, termed, a list of termed (printed by geneyey04.py). -/
attribute [local irreducible] Go.wpStill
namespace Go.Proofs.YtgiefblcckikeaaGreat.M
open Go.RowKit Go.Proofs.YtgiefblcckikeaaGreatW.PrintWords Go.Proofs.YtgiefblcckikeaaGreatW.PrintLast Go.Proofs.YtgiefblcckikeaaGreatW.PrintMore Go.Proofs.YtgiefblcckikeaaGreat.G
theorem eYes_is {w0 w : World} {x : Nat} {s : EyeS} (hI : IsEye w0 w x s) (hB : Below w0.heap.size w0 w) (hok : okS s) :
  Calls Tryz.prog 125 #[.pointer (some ⟨x, 0, none⟩)] w fun e w' => EyP w0 w x (.bool (eYes s).1) (eYes s).2 e w' := by
 have HN := Lib.hid (eNum_is hI hB hok)
 obtain ⟨k, hk⟩ : ∃ k, (eNum s).1 = k := ⟨_, rfl⟩
 obtain ⟨s1, hs1⟩ : ∃ s1, (eNum s).2 = s1 := ⟨_, rfl⟩
 have HF := Lib.hid (show eYes s = (decide (k = 1), eWrong (decide (k ≠ 0) && decide (k ≠ 1)) s1) by unfold eYes eKind; rw [hk, hs1])
 rw [hk, hs1] at HN
 clear hk hs1 hI hB hok
 by_cases ha : k = 0
 ·have q0 : (k != 0) = false := by rw [ha]; rfl
  have q2 : (k == 1) = false := by rw [ha]; rfl
  have HR := Lib.hid (show eYes s = (false, eWrong false s1) by rw [HF.out]; simp [ha])
  clear ha HF
  go_enter Tryz.func125, Tryz.ntmps125
  go_wp2_with fail
  refine HN.out.mono ?_
  rintro e w1 ⟨rfl, h1, h2, h3⟩
  have HW := Lib.hid (eWrong_is h1 h2 false); have H3 := Lib.hid h3
  clear h1 h2 h3 HN
  go_wp2_with fail
  refine HW.out.mono ?_
  rintro e w2 ⟨rfl, h1, h2, h3⟩
  have G1 := Lib.hid h1; have G2 := Lib.hid h2; have G3 := Lib.hid (H3.out.trans h3)
  clear h1 h2 h3 HW H3
  go_wp2_with fail
  go_ret
  exact ⟨by rw [HR.out]; rfl, by rw [HR.out]; exact G1.out, G2.out, G3.out⟩
 ·by_cases hb : k = 1
  ·have q0 : (k != 0) = true := bne_iff_ne.2 ha
   have q1 : (k != 1) = false := by rw [hb]; rfl
   have q2 : (k == 1) = true := by rw [hb]; rfl
   have HR := Lib.hid (show eYes s = (true, eWrong false s1) by rw [HF.out]; simp [ha, hb])
   clear ha hb HF
   go_enter Tryz.func125, Tryz.ntmps125
   go_wp2_with fail
   refine HN.out.mono ?_
   rintro e w1 ⟨rfl, h1, h2, h3⟩
   have HW := Lib.hid (eWrong_is h1 h2 false); have H3 := Lib.hid h3
   clear h1 h2 h3 HN
   go_wp2_with fail
   refine HW.out.mono ?_
   rintro e w2 ⟨rfl, h1, h2, h3⟩
   have G1 := Lib.hid h1; have G2 := Lib.hid h2; have G3 := Lib.hid (H3.out.trans h3)
   clear h1 h2 h3 HW H3
   go_wp2_with fail
   go_ret
   exact ⟨by rw [HR.out]; rfl, by rw [HR.out]; exact G1.out, G2.out, G3.out⟩
  ·have q0 : (k != 0) = true := bne_iff_ne.2 ha
   have q1 : (k != 1) = true := bne_iff_ne.2 hb
   have q2 : (k == 1) = false := beq_eq_false_iff_ne.2 hb
   have HR := Lib.hid (show eYes s = (false, eWrong true s1) by rw [HF.out]; simp [ha, hb])
   clear ha hb HF
   go_enter Tryz.func125, Tryz.ntmps125
   go_wp2_with fail
   refine HN.out.mono ?_
   rintro e w1 ⟨rfl, h1, h2, h3⟩
   have HW := Lib.hid (eWrong_is h1 h2 true); have H3 := Lib.hid h3
   clear h1 h2 h3 HN
   go_wp2_with fail
   refine HW.out.mono ?_
   rintro e w2 ⟨rfl, h1, h2, h3⟩
   have G1 := Lib.hid h1; have G2 := Lib.hid h2; have G3 := Lib.hid (H3.out.trans h3)
   clear h1 h2 h3 HW H3
   go_wp2_with fail
   go_ret
   exact ⟨by rw [HR.out]; rfl, by rw [HR.out]; exact G1.out, G2.out, G3.out⟩
def TrP (w0 w : World) (x : Nat) (y : TrD) (s' : EyeS) (e : Ending) (w' : World) : Prop := ∃ v : Value, e = .returned (.agg #[.int .i64 y.f0, .int .i64 y.f1.f0, .int .i64 y.f1.f1, .int .i64 y.f1.f2, v]) ∧ Kd.S G.k26 26 w' w.heap.size (fun _ => True) v y.f1.f3 ∧ IsEye w0 w' x s' ∧ Below w0.heap.size w0 w' ∧ KeepS (fun i => i = x) w w'
set_option maxHeartbeats 1000000 in
theorem eTermed_is {w0 w : World} {x : Nat} {s : EyeS} (hI : IsEye w0 w x s) (hB : Below w0.heap.size w0 w) (hok : okS s) :
  Calls Tryz.prog 127 #[.pointer (some ⟨x, 0, none⟩)] w fun e w' => TrP w0 w x (eTr s).1 (eTr s).2 e w' := by
 have HT1 := Lib.hid (Fo.start (I := fun W s => IsEye w0 W x s) (T := 63) (zs := #[.int .i64 0, .int .i64 0, .int .i64 0, .int .i64 0, .slice none 0 0]) hI hB hI.lt hI.ge (fun _ _ _ e h => h.at e))
 obtain ⟨a, ha⟩ : ∃ a, (eNum s).1 = a := ⟨_, rfl⟩
 obtain ⟨s1, hs1⟩ : ∃ s1, (eNum s).2 = s1 := ⟨_, rfl⟩
 have ho1 := okS_num hok
 rw [hs1] at ho1
 obtain ⟨y, hy⟩ : ∃ y, (eEntry s1).1 = y := ⟨_, rfl⟩
 obtain ⟨s2, hs2⟩ : ∃ s2, (eEntry s1).2 = s2 := ⟨_, rfl⟩
 have HF := Lib.hid (show eTr s = (⟨a, enOf y⟩, s2) by unfold eTr trOf FM PR; rw [ha, hs1, hy, hs2])
 obtain ⟨y0, y1, y2, yl⟩ := y
 have HO0 := Lib.hid hok; have HO1 := Lib.hid ho1; have HE1 := Lib.hid (And.intro ha hs1); have HE2 := Lib.hid (And.intro hy hs2)
 clear hI hB hok ho1 ha hs1 hy hs2
 go_enter Tryz.func127, Tryz.ntmps127
 go_wp2_with fail
 obtain ⟨w1, hw1⟩ : ∃ w1, w.alloc (.cells #[.int .i64 0, .int .i64 0, .int .i64 0, .int .i64 0, .slice none 0 0] 63) = w1 := ⟨_, rfl⟩
 rw [hw1] at HT1 ⊢
 clear hw1
 have h4 := eNum_is HT1.out.i HT1.out.d HO0.out
 rw [HE1.out.1, HE1.out.2] at h4
 refine h4.mono ?_
 rintro e w2 ⟨rfl, h1, h2, h3⟩
 have HT2 := Lib.hid (HT1.out.call h1 h2 h3)
 clear h1 h2 h3 h4 HT1
 go_wp2_with fail
 have h4 := eEntry_is HT2.out.i HT2.out.d HO1.out
 rw [HE2.out.1, HE2.out.2] at h4
 refine h4.mono ?_
 rintro e w3 ⟨v_, rfl, hv, h1, h2, h3⟩
 have hv : Kd.S G.k26 26 w3 w2.heap.size (fun _ => True) v_ yl := hv
 obtain ⟨A, c, rfl⟩ := Kd.S_slice hv
 have HV := Lib.hid hv
 have HT3 := Lib.hid (HT2.out.call h1 h2 h3)
 have HZ := Lib.hid HT2.out.hz
 clear h1 h2 h3 h4 hv HT2
 have d0 : w3.cell? ⟨w.heap.size, 0, none⟩ = some (.int .i64 0) := (blk_cell HT3.out.g0 0).trans rfl
 have z0 : w3.frozen? ⟨w.heap.size, 0, none⟩ = false := blk_frozen HT3.out.g0 0
 have d1 : w3.cell? ⟨w.heap.size, 1, none⟩ = some (.int .i64 0) := (blk_cell HT3.out.g0 1).trans rfl
 have z1 : w3.frozen? ⟨w.heap.size, 1, none⟩ = false := blk_frozen HT3.out.g0 1
 have d2 : w3.cell? ⟨w.heap.size, 2, none⟩ = some (.int .i64 0) := (blk_cell HT3.out.g0 2).trans rfl
 have z2 : w3.frozen? ⟨w.heap.size, 2, none⟩ = false := blk_frozen HT3.out.g0 2
 have d3 : w3.cell? ⟨w.heap.size, 3, none⟩ = some (.int .i64 0) := (blk_cell HT3.out.g0 3).trans rfl
 have z3 : w3.frozen? ⟨w.heap.size, 3, none⟩ = false := blk_frozen HT3.out.g0 3
 have d4 : w3.cell? ⟨w.heap.size, 4, none⟩ = some (.slice none 0 0) := (blk_cell HT3.out.g0 4).trans rfl
 have z4 : w3.frozen? ⟨w.heap.size, 4, none⟩ = false := blk_frozen HT3.out.g0 4
 go_wp2_with fail
 have HEB := Lib.hid (blk_put (cs := #[.int .i64 a, .int .i64 y0, .int .i64 y1, .int .i64 y2, .slice none 0 0]) (blk_put (cs := #[.int .i64 a, .int .i64 y0, .int .i64 y1, .int .i64 0, .slice none 0 0]) (blk_put (cs := #[.int .i64 a, .int .i64 y0, .int .i64 0, .int .i64 0, .slice none 0 0]) (blk_put (cs := #[.int .i64 a, .int .i64 0, .int .i64 0, .int .i64 0, .slice none 0 0]) (blk_put (cs := #[.int .i64 0, .int .i64 0, .int .i64 0, .int .i64 0, .slice none 0 0]) HT3.out.g0 0 (.int .i64 a) rfl) 1 (.int .i64 y0) rfl) 2 (.int .i64 y1) rfl) 3 (.int .i64 y2) rfl) 4 (.slice A yl.length c) rfl)
 have HKS := Lib.hid ((((((KeepS.refl (fun k => k = w.heap.size) w3).set (p := ⟨w.heap.size, 0, none⟩) (.inl rfl) (.int .i64 a)).set (p := ⟨w.heap.size, 1, none⟩) (.inl rfl) (.int .i64 y0)).set (p := ⟨w.heap.size, 2, none⟩) (.inl rfl) (.int .i64 y1)).set (p := ⟨w.heap.size, 3, none⟩) (.inl rfl) (.int .i64 y2)).set (p := ⟨w.heap.size, 4, none⟩) (.inl rfl) (.slice A yl.length c))
 obtain ⟨W, hW⟩ : ∃ W, (((((w3.setCell ⟨w.heap.size, 0, none⟩ (.int .i64 a)).setCell ⟨w.heap.size, 1, none⟩ (.int .i64 y0)).setCell ⟨w.heap.size, 2, none⟩ (.int .i64 y1)).setCell ⟨w.heap.size, 3, none⟩ (.int .i64 y2)).setCell ⟨w.heap.size, 4, none⟩ (.slice A yl.length c)) = W := ⟨_, rfl⟩
 rw [hW] at HEB HKS ⊢
 clear hW
 refine bodyPost_ret (results_cell_row rfl _ _ w.heap.size 63 #[.int .i64 a, .int .i64 y0, .int .i64 y1, .int .i64 y2, .slice A yl.length c] (0, 0) _ rfl HEB.out Tryz.underlying63 rfl (by kernel_rfl)) rfl ?_
 rw [HF.out]
 obtain ⟨i, d, q⟩ := HT3.out.done HKS.out
 have hz := HZ.out
 exact ⟨_, rfl, Kd.S_mono (Kd.S_step (Kd.S_lower (Kd.S_bound HV.out) (Nat.le_of_lt hz)) (fun k hk hlt => HKS.out.block k hlt (fun (e : k = w.heap.size) => by have := hk.2.1; omega))) (fun _ _ => trivial), i, d, q⟩
theorem okS_tr {s : EyeS} (h : okS s) : okS (eTr s).2 := okS_entry (okS_num h)
def LiI_trs (g : EyeS → TrD × EyeS) (n : Int) (s0 : EyeS) (w0 w : World) (x : Nat) (v i : Value) (W : World) : Prop := ∃ (U : List TrD) (s : EyeS), i = .int .i64 (U.length : Int) ∧ U.length ≤ 4096 ∧ U.length ≤ n.toNat ∧ (s.e = 0 → n ≤ 4096) ∧ Kd.S G.k63 63 W w.heap.size (fun _ => True) v U ∧ IsEye w0 W x s ∧ Below w0.heap.size w0 W ∧ KeepS (fun i => i = x) w W ∧ okS s ∧ eList g s0 = (U ++ (eMany g (n.toNat - U.length) s).1, (eMany g (n.toNat - U.length) s).2)
set_option maxHeartbeats 2000000 in
theorem eList_trs {w0 w : World} {x : Nat} {s : EyeS} (hI : IsEye w0 w x s) (hB : Below w0.heap.size w0 w) (hok : okS s) :
  Calls Tryz.prog 126 #[.pointer (some ⟨x, 0, none⟩), .func (.func 127) #[.pointer (some ⟨x, 0, none⟩)] #[]] w fun e w' => LiP G.k63 63 w0 w x (eList eTr s).1 (eList eTr s).2 e w' := by
 have HN := Lib.hid (eNum_is hI hB hok)
 have HOK := Lib.hid (okS_num hok)
 have HLT := Lib.hid hI.lt
 have HGEW := Lib.hid (show w0.heap.size ≤ w.heap.size from hB.size)
 obtain ⟨n, hn⟩ : ∃ n, (eNum s).1 = n := ⟨_, rfl⟩
 obtain ⟨s1, hs1⟩ : ∃ s1, (eNum s).2 = s1 := ⟨_, rfl⟩
 have HCT := Lib.hid (show eCount s = eWrong (decide (n < 0) || decide (4096 < n)) s1 by unfold eCount; rw [hn, hs1])
 have Hapi.Termed := Lib.hid (show eList eTr s = eMany eTr n.toNat (eCount s) by unfold eList; rw [hn])
 rw [hn, hs1] at HN
 rw [hs1] at HOK
 clear hI hB hok hn hs1
 go_enter Tryz.func126, Tryz.ntmps126
 go_wp2_with fail
 refine HN.out.mono ?_
 rintro e w1 ⟨rfl, h1, h2, h3⟩
 have H1 := Lib.hid h1; have H2 := Lib.hid h2; have H3 := Lib.hid h3
 clear h1 h2 h3 HN
 go_upto_region 2 with fail
 go_cut [] (fun wx => IsEye w0 wx x (eCount s) ∧ Below w0.heap.size w0 wx ∧ KeepS (fun i => i = x) w wx)
 case first =>
  by_cases ha : n < 0
  ·have hq : decide (n < 0) = true := decide_eq_true ha
   have HW := Lib.hid (eWrong_is H1.out H2.out true)
   have HC2 := Lib.hid (show eCount s = eWrong true s1 by rw [HCT.out, hq, Bool.true_or])
   clear ha
   go_wp2_with fail
   refine HW.out.mono ?_
   rintro e w2 ⟨rfl, h1, h2, h3⟩
   have G1 := Lib.hid h1; have G2 := Lib.hid h2; have G3 := Lib.hid (H3.out.trans h3)
   clear h1 h2 h3
   go_wp2_with fail
   go_meet
   exact ⟨by rw [HC2.out]; exact G1.out, G2.out, G3.out⟩
  ·have hq : decide (n < 0) = false := decide_eq_false ha
   obtain ⟨b, hb⟩ : ∃ b, decide ((4096 : Int) < n) = b := ⟨_, rfl⟩
   have HW := Lib.hid (eWrong_is H1.out H2.out b)
   have HC2 := Lib.hid (show eCount s = eWrong b s1 by rw [HCT.out, hq, hb, Bool.false_or])
   clear ha
   go_wp2_with fail
   refine HW.out.mono ?_
   rintro e w2 ⟨rfl, h1, h2, h3⟩
   have G1 := Lib.hid h1; have G2 := Lib.hid h2; have G3 := Lib.hid (H3.out.trans h3)
   clear h1 h2 h3
   go_wp2_with fail
   go_meet
   exact ⟨by rw [HC2.out]; exact G1.out, G2.out, G3.out⟩
 case rest =>
  obtain ⟨h1, h2, h3⟩ := hcut
  have G1 := Lib.hid h1; have G2 := Lib.hid h2; have G3 := Lib.hid h3
  have HE0 := Lib.hid (show (eCount s).e = 0 → n ≤ 4096 by
   intro h
   rw [HCT.out] at h
   by_cases h5 : (4096 : Int) < n
   ·rw [decide_eq_true h5, Bool.or_true] at h
    unfold eWrong at h
    split at h
    ·cases h
    ·next h6 => exact absurd ⟨h, rfl⟩ h6
   ·omega)
  have HOC := Lib.hid (show okS (eCount s) by rw [HCT.out]; exact okS_wrong _ HOK.out)
  clear h1 h2 h3
  go_wp2_with fail
  go_loopw [6, 7] (fun v i wr => LiI_trs eTr n s w0 w x v i wr) (fun _ i _ => n.toNat - (intOf i).toNat)
  case atStart => exact ⟨[], eCount s, rfl, by simp, by simp, HE0.out, Kd.S_nil _ _ _ _ _, G1.out, G2.out, G3.out, HOC.out, by simpa using Hapi.Termed.out⟩
  case round =>
   obtain ⟨U, s2, rfl, hU, hUn, hE, hS, hI, hB, hK, hO, hF⟩ := hrel
   have HI := Lib.hid hI; have HB := Lib.hid hB; have HK := Lib.hid hK; have HO := Lib.hid hO; have HF := Lib.hid hF; have HS := Lib.hid hS; have HUN := Lib.hid hUn; have HE := Lib.hid hE
   obtain ⟨Av, cv, rfl⟩ := Kd.S_slice hS
   obtain ⟨A, c, g1, g2, g3, g4⟩ := hI
   have c1 : wr.cell? ⟨x, 1, none⟩ = some (.int .i64 s2.e) := by simp [World.cell?, g1]
   clear hB hK hO hF hS hUn hE g1 g2 g3 g4
   by_cases hlt : (U.length : Int) < n
   ·by_cases he : s2.e = 0
    ·have hq1 : decide ((U.length : Int) < n) = true := decide_eq_true hlt
     have hq2 : (s2.e == 0) = true := by rw [he]; rfl
     have HN4 := Lib.hid (HE.out he)
     have HG := Lib.hid (eTermed_is HI.out HB.out HO.out)
     have HGO := Lib.hid (okS_tr HO.out)
     obtain ⟨y, hy⟩ : ∃ y, (eTr s2).1 = y := ⟨_, rfl⟩
     obtain ⟨s3, hs3⟩ : ∃ s3, (eTr s2).2 = s3 := ⟨_, rfl⟩
     have HF2 := Lib.hid (show eList eTr s = ((U ++ [y]) ++ (eMany eTr (n.toNat - (U ++ [y]).length) s3).1, (eMany eTr (n.toNat - (U ++ [y]).length) s3).2) by
      rw [HF.out]
      have e1 : n.toNat - U.length = (n.toNat - (U ++ [y]).length) + 1 := by simp; omega
      rw [e1]
      simp only [eMany, he, if_true, hy, hs3, List.append_assoc, List.singleton_append])
     have HLT2 := Lib.hid hlt
     rw [hy, hs3] at HG
     rw [hs3] at HGO
     clear hlt he hy hs3
     go_wp2_with fail
     refine HG.out.mono ?_
     rintro e w3 ⟨v_, rfl, r4, h1, h2, h3⟩
     obtain ⟨A4, c4, rfl⟩ := Kd.S_slice r4
     have HBW := Lib.hid (show w.heap.size ≤ wr.heap.size from HK.out.size)
     have R4 := Lib.hid (show Kd.R G.k26 26 w3 w.heap.size (fun k => wr.heap.size ≤ k) _ y.f1.f3 from Kd.R_mono (Kd.R_lower (Kd.R_bound (Kd.S_R r4)) HBW.out) (fun k hk => hk.2.1))
     have HS3 := Lib.hid (show Kd.S G.k63 63 w3 w.heap.size (fun k => True ∧ ¬ wr.heap.size ≤ k) (.slice Av U.length cv) U from Kd.S_mono (Kd.S_step (Kd.S_bound HS.out) (fun k hk2 hlt => h3.block k hlt (fun e => by have := hk2.2.1; have := HLT.out; omega))) (fun k hk => ⟨trivial, by have := hk.2.2.1; omega⟩))
     have HOWN := Lib.hid (Kd.S_lt HS.out)
     have HZ3 := Lib.hid (Nat.le_trans HK.out.size h3.size)
     have K1 := Lib.hid h1; have K2 := Lib.hid h2; have K3 := Lib.hid (HK.out.trans h3)
     clear h1 h2 h3 r4
     go_wp2_with ((with_reducible refine gate_builtin (b := .append) (xs := #[.tmp 30, .tmp 33]) rfl ?_); at_builtin; refine Kd.S_append G.k63 (w0 := w3) w.heap.size rfl (.tmp 30) (.tmp 33) 30 63 (.agg #[.int .i64 0, .int .i64 0, .int .i64 0, .int .i64 0, .slice none 0 0]) 56 rfl Tryz.underlying30 G.info63 rfl (by decide) (by omega) _ U y [.int .i64 y.f0, .int .i64 y.f1.f0, .int .i64 y.f1.f1, .int .i64 y.f1.f2, .slice A4 y.f1.f3.length c4] (fun _ => True) (fun k => wr.heap.size ≤ k) rfl rfl (G.k63_mkM _ _ _ y R4.out) (fun k hk => ⟨trivial, fun e => by have := HOWN.out k e.symm; omega⟩) (fun _ _ => trivial) HS3.out (Below.refl _ _) HZ3.out (by omega) ?_; intro v1 w5 ho hb5 hg5 hat; obtain ⟨A9, c9, rfl⟩ := Kd.S_slice ho; have HS5 := Lib.hid ho; have HK5 := Lib.hid (K3.out.then_base hb5); have HI5 := Lib.hid (K1.out.at (hb5.block x HLT.out)); have HB5 := Lib.hid (K2.out.trans (hb5.mono HGEW.out)); clear ho hb5 hg5 hat)
     go_roundw
     case rel =>
      refine ⟨U ++ [y], s3, by rw [List.length_append]; go_num, ?_, ?_, fun _ => HN4.out, (by have h9 := HS5.out; rw [List.length_append] at h9; exact h9), HI5.out, HB5.out, HK5.out, HGO.out, HF2.out⟩
      ·have h1 := HN4.out; have h2 := HLT2.out
       rw [List.length_append, List.length_singleton]
       omega
      ·have h2 := HLT2.out
       rw [List.length_append, List.length_singleton]
       omega
     case measure => simp [intOf]; have h2 := HLT2.out; omega
    ·have hq1 : decide ((U.length : Int) < n) = true := decide_eq_true hlt
     have hq2 : (s2.e == 0) = false := beq_eq_false_iff_ne.2 he
     have HF2 := Lib.hid (show eList eTr s = (U, s2) by rw [HF.out, eMany_stop he, List.append_nil])
     clear hlt he
     go_wp2_with fail
     go_ret
     exact ⟨_, rfl, by rw [HF2.out]; exact HS.out, by rw [HF2.out]; exact HI.out, HB.out, HK.out⟩
   ·have hq1 : decide ((U.length : Int) < n) = false := decide_eq_false hlt
    have HF2 := Lib.hid (show eList eTr s = (U, s2) by
     have e1 : n.toNat - U.length = 0 := by omega
     rw [HF.out, e1]
     simp only [eMany, List.append_nil])
    clear hlt
    go_wp2_with fail
    go_ret
    exact ⟨_, rfl, by rw [HF2.out]; exact HS.out, by rw [HF2.out]; exact HI.out, HB.out, HK.out⟩
end Go.Proofs.YtgiefblcckikeaaGreat.M
end

section
/- The eye: a message, kinds 1, 2, 4 (printed by geneym04.py). -/
attribute [local irreducible] Go.wpStill
namespace Go.Proofs.YtgiefblcckikeaaGreat.M
open Go.RowKit Go.Proofs.YtgiefblcckikeaaGreatW.PrintWords Go.Proofs.YtgiefblcckikeaaGreatW.PrintLast Go.Proofs.YtgiefblcckikeaaGreatW.PrintMore Go.Proofs.YtgiefblcckikeaaGreat.G
theorem okS_yes {s : EyeS} (h : okS s) : okS (eYes s).2 := okS_kind h
theorem okS_trs {s : EyeS} (h : okS s) : okS (eList eTr s).2 := okS_list (fun _ => okS_tr) h
set_option maxHeartbeats 4000000 in
theorem eMsg1 {w0 w : World} {x : Nat} {s : EyeS} (hI : IsEye w0 w x s) (hB : Below w0.heap.size w0 w) (hok : okS s) (hk : (eNum s).1 = 1) (he : (eNum s).2.e = 0) :
  Calls Tryz.prog 60 #[.pointer (some ⟨x, 0, none⟩)] w fun e w' => MsP (fun W s => IsEye w0 W x s) w0 w x (eMsg s).1 (eMsg s).2 e w' := by
 have HT1 := Lib.hid (Fo.start (I := fun W s => IsEye w0 W x s) (T := 34) (zs := #[.int .i64 0, .int .i64 0, .int .i64 0, .int .i64 0, .int .i64 0, .int .i64 0, .int .i64 0, .bool false, .slice none 0 0, .int .i64 0, .int .i64 0, .int .i64 0, .slice none 0 0, .int .i64 0, .int .i64 0, .int .i64 0, .slice none 0 0]) hI hB hI.lt hI.ge (fun _ _ _ e h => h.at e))
 obtain ⟨s1, hs1⟩ : ∃ s1, (eNum s).2 = s1 := ⟨_, rfl⟩
 have HN := Lib.hid (And.intro hk hs1)
 have HO0 := Lib.hid hok
 have ho1 := okS_num hok
 rw [hs1] at ho1 he
 have HF0 := Lib.hid (show eMsg s = mBody eSmall eEntry (eList eTr) 1 s1 by
  have hm : eMk s = s1 := by unfold eMk; rw [hk, hs1]; exact eWrong_false _
  unfold eMsg
  rw [hm, if_neg (fun q => q he), hk])
 clear hI hB hok hk hs1
 obtain ⟨v1, hv1⟩ : ∃ v, (eSmall s1).1 = v := ⟨_, rfl⟩
 obtain ⟨s2, hs2⟩ : ∃ t, (eSmall s1).2 = t := ⟨_, rfl⟩
 have ho2 := okS_small ho1
 rw [hs2] at ho2
 have HO1 := Lib.hid ho1; have HE1 := Lib.hid (And.intro hv1 hs2)
 obtain ⟨v2, hv2⟩ : ∃ v, (eSmall s2).1 = v := ⟨_, rfl⟩
 obtain ⟨s3, hs3⟩ : ∃ t, (eSmall s2).2 = t := ⟨_, rfl⟩
 have ho3 := okS_small ho2
 rw [hs3] at ho3
 have HO2 := Lib.hid ho2; have HE2 := Lib.hid (And.intro hv2 hs3)
 obtain ⟨v3, hv3⟩ : ∃ v, (eNum s3).1 = v := ⟨_, rfl⟩
 obtain ⟨s4, hs4⟩ : ∃ t, (eNum s3).2 = t := ⟨_, rfl⟩
 have ho4 := okS_num ho3
 rw [hs4] at ho4
 have HO3 := Lib.hid ho3; have HE3 := Lib.hid (And.intro hv3 hs4)
 obtain ⟨v4, hv4⟩ : ∃ v, (eNum s4).1 = v := ⟨_, rfl⟩
 obtain ⟨s5, hs5⟩ : ∃ t, (eNum s4).2 = t := ⟨_, rfl⟩
 have ho5 := okS_num ho4
 rw [hs5] at ho5
 have HO4 := Lib.hid ho4; have HE4 := Lib.hid (And.intro hv4 hs5)
 obtain ⟨v5, hv5⟩ : ∃ v, (eNum s5).1 = v := ⟨_, rfl⟩
 obtain ⟨s6, hs6⟩ : ∃ t, (eNum s5).2 = t := ⟨_, rfl⟩
 have ho6 := okS_num ho5
 rw [hs6] at ho6
 have HO5 := Lib.hid ho5; have HE5 := Lib.hid (And.intro hv5 hs6)
 have HF := Lib.hid (show eMsg s = (⟨1, v1, v2, v3, v4, v5, 0, false, [], zE, zP⟩, s6) by
  rw [HF0.out]
  unfold mBody
  rw [if_pos rfl]
  simp only [FM, PR, enOf, hv1, hs2, hv2, hs3, hv3, hs4, hv4, hs5, hv5, hs6])
 clear HF0 hv1 hs2 ho1 hv2 hs3 ho2 hv3 hs4 ho3 hv4 hs5 ho4 hv5 hs6 ho5 ho6
 have HQ := Lib.hid (show (s1.e != 0) = false by rw [he]; rfl)
 clear he
 go_enter Tryz.func60, Tryz.ntmps60
 go_upto_region 1 with fail
 obtain ⟨w1, hw1⟩ : ∃ w1, w.alloc (.cells #[.int .i64 0, .int .i64 0, .int .i64 0, .int .i64 0, .int .i64 0, .int .i64 0, .int .i64 0, .bool false, .slice none 0 0, .int .i64 0, .int .i64 0, .int .i64 0, .slice none 0 0, .int .i64 0, .int .i64 0, .int .i64 0, .slice none 0 0] 34) = w1 := ⟨_, rfl⟩
 rw [hw1] at HT1 ⊢
 clear hw1
 go_wp2_with fail
 have h4 := eNum_is HT1.out.i HT1.out.d HO0.out
 rw [HN.out.1, HN.out.2] at h4
 refine h4.mono ?_
 rintro e w2 ⟨rfl, h1, h2, h3⟩
 have HT2 := Lib.hid (HT1.out.call h1 h2 h3)
 clear h1 h2 h3 h4 HT1 HN
 go_wp2_with fail
 have h4 := eWrong_is HT2.out.i HT2.out.d false
 rw [eWrong_false] at h4
 refine h4.mono ?_
 rintro e w3 ⟨rfl, h1, h2, h3⟩
 have HT3 := Lib.hid (HT2.out.call h1 h2 h3)
 clear h1 h2 h3 h4 HT2
 have c1 : w3.cell? ⟨x, 1, none⟩ = some (.int .i64 s1.e) := by
  obtain ⟨A, c, g1, _⟩ := HT3.out.i
  simp [World.cell?, g1]
 have hq := HQ.out
 go_wp2_with fail
 clear c1 hq
 have h4 := eSmall_is HT3.out.i HT3.out.d HO1.out
 rw [HE1.out.1, HE1.out.2] at h4
 refine h4.mono ?_
 rintro e w4 ⟨rfl, h1, h2, h3⟩
 have HT4 := Lib.hid (HT3.out.call h1 h2 h3)
 clear h1 h2 h3 h4 HT3
 go_wp2_with fail
 have h4 := eSmall_is HT4.out.i HT4.out.d HO2.out
 rw [HE2.out.1, HE2.out.2] at h4
 refine h4.mono ?_
 rintro e w5 ⟨rfl, h1, h2, h3⟩
 have HT5 := Lib.hid (HT4.out.call h1 h2 h3)
 clear h1 h2 h3 h4 HT4
 go_upto_region 6 with fail
 have HT6 := Lib.hid (HT5.out.lay #[.int .i64 1, .int .i64 v1, .int .i64 v2, .int .i64 0, .int .i64 0, .int .i64 0, .int .i64 0, .bool false, .slice none 0 0, .int .i64 0, .int .i64 0, .int .i64 0, .slice none 0 0, .int .i64 0, .int .i64 0, .int .i64 0, .slice none 0 0])
 obtain ⟨g, hg⟩ : ∃ g, w5.heap.size = g := ⟨_, rfl⟩
 obtain ⟨w6, hw6⟩ : ∃ w6, w5.alloc (.cells #[.int .i64 1, .int .i64 v1, .int .i64 v2, .int .i64 0, .int .i64 0, .int .i64 0, .int .i64 0, .bool false, .slice none 0 0, .int .i64 0, .int .i64 0, .int .i64 0, .slice none 0 0, .int .i64 0, .int .i64 0, .int .i64 0, .slice none 0 0] 34) = w6 := ⟨_, rfl⟩
 rw [hg, hw6] at HT6
 rw [hw6, hg]
 clear hg hw6 HT5
 have b0 : w6.cell? ⟨g, 0, none⟩ = some (.int .i64 1) := (blk_cell HT6.out.y 0).trans rfl
 go_wp2_with fail
 have h4 := eNum_is HT6.out.i HT6.out.d HO3.out
 rw [HE3.out.1, HE3.out.2] at h4
 refine h4.mono ?_
 rintro e w7 ⟨rfl, h1, h2, h3⟩
 have HT7 := Lib.hid (HT6.out.call h1 h2 h3)
 clear h1 h2 h3 h4 HT6
 clear b0
 have d3 : w7.cell? ⟨g, 3, none⟩ = some (.int .i64 0) := (blk_cell HT7.out.y 3).trans rfl
 have z3 : w7.frozen? ⟨g, 3, none⟩ = false := blk_frozen HT7.out.y 3
 have d0 : w7.cell? ⟨g, 0, none⟩ = some (.int .i64 1) := (blk_cell HT7.out.y 0).trans rfl
 have z0 : w7.frozen? ⟨g, 0, none⟩ = false := blk_frozen HT7.out.y 0
 go_wp2_with fail
 have HT8 := Lib.hid (HT7.out.put 3 (.int .i64 v3))
 obtain ⟨w8, hw⟩ : ∃ W, (w7.setCell ⟨g, 3, none⟩ (.int .i64 v3)) = W := ⟨_, rfl⟩
 rw [hw] at HT8 ⊢
 clear hw HT7 d3 z3 d0 z0
 have h4 := eNum_is HT8.out.i HT8.out.d HO4.out
 rw [HE4.out.1, HE4.out.2] at h4
 refine h4.mono ?_
 rintro e w9 ⟨rfl, h1, h2, h3⟩
 have HT9 := Lib.hid (HT8.out.call h1 h2 h3)
 clear h1 h2 h3 h4 HT8
 have d4 : w9.cell? ⟨g, 4, none⟩ = some (.int .i64 0) := (blk_cell HT9.out.y 4).trans rfl
 have z4 : w9.frozen? ⟨g, 4, none⟩ = false := blk_frozen HT9.out.y 4
 have d0 : w9.cell? ⟨g, 0, none⟩ = some (.int .i64 1) := (blk_cell HT9.out.y 0).trans rfl
 have z0 : w9.frozen? ⟨g, 0, none⟩ = false := blk_frozen HT9.out.y 0
 go_wp2_with fail
 have HT10 := Lib.hid (HT9.out.put 4 (.int .i64 v4))
 obtain ⟨w10, hw⟩ : ∃ W, (w9.setCell ⟨g, 4, none⟩ (.int .i64 v4)) = W := ⟨_, rfl⟩
 rw [hw] at HT10 ⊢
 clear hw HT9 d4 z4 d0 z0
 have h4 := eNum_is HT10.out.i HT10.out.d HO5.out
 rw [HE5.out.1, HE5.out.2] at h4
 refine h4.mono ?_
 rintro e w11 ⟨rfl, h1, h2, h3⟩
 have HT11 := Lib.hid (HT10.out.call h1 h2 h3)
 clear h1 h2 h3 h4 HT10
 have d5 : w11.cell? ⟨g, 5, none⟩ = some (.int .i64 0) := (blk_cell HT11.out.y 5).trans rfl
 have z5 : w11.frozen? ⟨g, 5, none⟩ = false := blk_frozen HT11.out.y 5
 have d0 : w11.cell? ⟨g, 0, none⟩ = some (.int .i64 1) := (blk_cell HT11.out.y 0).trans rfl
 have z0 : w11.frozen? ⟨g, 0, none⟩ = false := blk_frozen HT11.out.y 0
 go_upto_region 28 with fail
 have HT12 := Lib.hid (HT11.out.put 5 (.int .i64 v5))
 obtain ⟨w12, hw⟩ : ∃ W, (w11.setCell ⟨g, 5, none⟩ (.int .i64 v5)) = W := ⟨_, rfl⟩
 rw [hw] at HT12 ⊢
 clear hw HT11 d5 z5 d0 z0
 have hT : Fr _ w0 w x g 34 _ #[.int .i64 1, .int .i64 v1, .int .i64 v2, .int .i64 v3, .int .i64 v4, .int .i64 v5, .int .i64 0, .bool false, .slice none 0 0, .int .i64 0, .int .i64 0, .int .i64 0, .slice none 0 0, .int .i64 0, .int .i64 0, .int .i64 0, .slice none 0 0] _ _ _ := HT12.out
 refine wp_region_list ?_
 refine wpList_load_row rfl 34 (.tmp 4) rfl g rfl 34 _ (0, 0) _ hT.y Tryz.underlying34 rfl (by kernel_rfl) ?_
 refine wpList_store_row rfl 34 (.tmp 2) (.tmp 94) rfl w.heap.size _ rfl rfl 34 _ hT.g0 (by kernel_rfl) rfl (by simp [Value.oneCell']) ?_
 go_wp2_with fail
 refine bodyPost_ret (results_cell_row rfl _ _ w.heap.size 34 _ (0, 0) _ rfl hT.fin.1 Tryz.underlying34 rfl (by kernel_rfl)) rfl ?_
 rw [HF.out]
 exact ⟨_, _, _, rfl, Kd.R_nil _ _ _ _ _, Kd.R_nil _ _ _ _ _, Kd.R_nil _ _ _ _ _, hT.fin.2.2.1, hT.fin.2.2.2.1, hT.fin.2.2.2.2⟩
set_option maxHeartbeats 4000000 in
theorem eMsg2 {w0 w : World} {x : Nat} {s : EyeS} (hI : IsEye w0 w x s) (hB : Below w0.heap.size w0 w) (hok : okS s) (hk : (eNum s).1 = 2) (he : (eNum s).2.e = 0) :
  Calls Tryz.prog 60 #[.pointer (some ⟨x, 0, none⟩)] w fun e w' => MsP (fun W s => IsEye w0 W x s) w0 w x (eMsg s).1 (eMsg s).2 e w' := by
 have HT1 := Lib.hid (Fo.start (I := fun W s => IsEye w0 W x s) (T := 34) (zs := #[.int .i64 0, .int .i64 0, .int .i64 0, .int .i64 0, .int .i64 0, .int .i64 0, .int .i64 0, .bool false, .slice none 0 0, .int .i64 0, .int .i64 0, .int .i64 0, .slice none 0 0, .int .i64 0, .int .i64 0, .int .i64 0, .slice none 0 0]) hI hB hI.lt hI.ge (fun _ _ _ e h => h.at e))
 obtain ⟨s1, hs1⟩ : ∃ s1, (eNum s).2 = s1 := ⟨_, rfl⟩
 have HN := Lib.hid (And.intro hk hs1)
 have HO0 := Lib.hid hok
 have ho1 := okS_num hok
 rw [hs1] at ho1 he
 have HF0 := Lib.hid (show eMsg s = mBody eSmall eEntry (eList eTr) 2 s1 by
  have hm : eMk s = s1 := by unfold eMk; rw [hk, hs1]; exact eWrong_false _
  unfold eMsg
  rw [hm, if_neg (fun q => q he), hk])
 clear hI hB hok hk hs1
 obtain ⟨v1, hv1⟩ : ∃ v, (eSmall s1).1 = v := ⟨_, rfl⟩
 obtain ⟨s2, hs2⟩ : ∃ t, (eSmall s1).2 = t := ⟨_, rfl⟩
 have ho2 := okS_small ho1
 rw [hs2] at ho2
 have HO1 := Lib.hid ho1; have HE1 := Lib.hid (And.intro hv1 hs2)
 obtain ⟨v2, hv2⟩ : ∃ v, (eSmall s2).1 = v := ⟨_, rfl⟩
 obtain ⟨s3, hs3⟩ : ∃ t, (eSmall s2).2 = t := ⟨_, rfl⟩
 have ho3 := okS_small ho2
 rw [hs3] at ho3
 have HO2 := Lib.hid ho2; have HE2 := Lib.hid (And.intro hv2 hs3)
 obtain ⟨v3, hv3⟩ : ∃ v, (eNum s3).1 = v := ⟨_, rfl⟩
 obtain ⟨s4, hs4⟩ : ∃ t, (eNum s3).2 = t := ⟨_, rfl⟩
 have ho4 := okS_num ho3
 rw [hs4] at ho4
 have HO3 := Lib.hid ho3; have HE3 := Lib.hid (And.intro hv3 hs4)
 obtain ⟨v4, hv4⟩ : ∃ v, (eYes s4).1 = v := ⟨_, rfl⟩
 obtain ⟨s5, hs5⟩ : ∃ t, (eYes s4).2 = t := ⟨_, rfl⟩
 have ho5 := okS_yes ho4
 rw [hs5] at ho5
 have HO4 := Lib.hid ho4; have HE4 := Lib.hid (And.intro hv4 hs5)
 have HF := Lib.hid (show eMsg s = (⟨2, v1, v2, v3, 0, 0, 0, v4, [], zE, zP⟩, s5) by
  rw [HF0.out]
  unfold mBody
  rw [if_neg (by decide)]; rw [if_pos rfl]
  simp only [FM, PR, enOf, hv1, hs2, hv2, hs3, hv3, hs4, hv4, hs5])
 clear HF0 hv1 hs2 ho1 hv2 hs3 ho2 hv3 hs4 ho3 hv4 hs5 ho4 ho5
 have HQ := Lib.hid (show (s1.e != 0) = false by rw [he]; rfl)
 clear he
 go_enter Tryz.func60, Tryz.ntmps60
 go_upto_region 1 with fail
 obtain ⟨w1, hw1⟩ : ∃ w1, w.alloc (.cells #[.int .i64 0, .int .i64 0, .int .i64 0, .int .i64 0, .int .i64 0, .int .i64 0, .int .i64 0, .bool false, .slice none 0 0, .int .i64 0, .int .i64 0, .int .i64 0, .slice none 0 0, .int .i64 0, .int .i64 0, .int .i64 0, .slice none 0 0] 34) = w1 := ⟨_, rfl⟩
 rw [hw1] at HT1 ⊢
 clear hw1
 go_wp2_with fail
 have h4 := eNum_is HT1.out.i HT1.out.d HO0.out
 rw [HN.out.1, HN.out.2] at h4
 refine h4.mono ?_
 rintro e w2 ⟨rfl, h1, h2, h3⟩
 have HT2 := Lib.hid (HT1.out.call h1 h2 h3)
 clear h1 h2 h3 h4 HT1 HN
 go_wp2_with fail
 have h4 := eWrong_is HT2.out.i HT2.out.d false
 rw [eWrong_false] at h4
 refine h4.mono ?_
 rintro e w3 ⟨rfl, h1, h2, h3⟩
 have HT3 := Lib.hid (HT2.out.call h1 h2 h3)
 clear h1 h2 h3 h4 HT2
 have c1 : w3.cell? ⟨x, 1, none⟩ = some (.int .i64 s1.e) := by
  obtain ⟨A, c, g1, _⟩ := HT3.out.i
  simp [World.cell?, g1]
 have hq := HQ.out
 go_wp2_with fail
 clear c1 hq
 have h4 := eSmall_is HT3.out.i HT3.out.d HO1.out
 rw [HE1.out.1, HE1.out.2] at h4
 refine h4.mono ?_
 rintro e w4 ⟨rfl, h1, h2, h3⟩
 have HT4 := Lib.hid (HT3.out.call h1 h2 h3)
 clear h1 h2 h3 h4 HT3
 go_wp2_with fail
 have h4 := eSmall_is HT4.out.i HT4.out.d HO2.out
 rw [HE2.out.1, HE2.out.2] at h4
 refine h4.mono ?_
 rintro e w5 ⟨rfl, h1, h2, h3⟩
 have HT5 := Lib.hid (HT4.out.call h1 h2 h3)
 clear h1 h2 h3 h4 HT4
 go_upto_region 6 with fail
 have HT6 := Lib.hid (HT5.out.lay #[.int .i64 2, .int .i64 v1, .int .i64 v2, .int .i64 0, .int .i64 0, .int .i64 0, .int .i64 0, .bool false, .slice none 0 0, .int .i64 0, .int .i64 0, .int .i64 0, .slice none 0 0, .int .i64 0, .int .i64 0, .int .i64 0, .slice none 0 0])
 obtain ⟨g, hg⟩ : ∃ g, w5.heap.size = g := ⟨_, rfl⟩
 obtain ⟨w6, hw6⟩ : ∃ w6, w5.alloc (.cells #[.int .i64 2, .int .i64 v1, .int .i64 v2, .int .i64 0, .int .i64 0, .int .i64 0, .int .i64 0, .bool false, .slice none 0 0, .int .i64 0, .int .i64 0, .int .i64 0, .slice none 0 0, .int .i64 0, .int .i64 0, .int .i64 0, .slice none 0 0] 34) = w6 := ⟨_, rfl⟩
 rw [hg, hw6] at HT6
 rw [hw6, hg]
 clear hg hw6 HT5
 have b0 : w6.cell? ⟨g, 0, none⟩ = some (.int .i64 2) := (blk_cell HT6.out.y 0).trans rfl
 go_wp2_with fail
 have h4 := eNum_is HT6.out.i HT6.out.d HO3.out
 rw [HE3.out.1, HE3.out.2] at h4
 refine h4.mono ?_
 rintro e w7 ⟨rfl, h1, h2, h3⟩
 have HT7 := Lib.hid (HT6.out.call h1 h2 h3)
 clear h1 h2 h3 h4 HT6
 clear b0
 have d3 : w7.cell? ⟨g, 3, none⟩ = some (.int .i64 0) := (blk_cell HT7.out.y 3).trans rfl
 have z3 : w7.frozen? ⟨g, 3, none⟩ = false := blk_frozen HT7.out.y 3
 have d0 : w7.cell? ⟨g, 0, none⟩ = some (.int .i64 2) := (blk_cell HT7.out.y 0).trans rfl
 have z0 : w7.frozen? ⟨g, 0, none⟩ = false := blk_frozen HT7.out.y 0
 go_wp2_with fail
 have HT8 := Lib.hid (HT7.out.put 3 (.int .i64 v3))
 obtain ⟨w8, hw⟩ : ∃ W, (w7.setCell ⟨g, 3, none⟩ (.int .i64 v3)) = W := ⟨_, rfl⟩
 rw [hw] at HT8 ⊢
 clear hw HT7 d3 z3 d0 z0
 have h4 := eYes_is HT8.out.i HT8.out.d HO4.out
 rw [HE4.out.1, HE4.out.2] at h4
 refine h4.mono ?_
 rintro e w9 ⟨rfl, h1, h2, h3⟩
 have HT9 := Lib.hid (HT8.out.call h1 h2 h3)
 clear h1 h2 h3 h4 HT8
 have d7 : w9.cell? ⟨g, 7, none⟩ = some (.bool false) := (blk_cell HT9.out.y 7).trans rfl
 have z7 : w9.frozen? ⟨g, 7, none⟩ = false := blk_frozen HT9.out.y 7
 have d0 : w9.cell? ⟨g, 0, none⟩ = some (.int .i64 2) := (blk_cell HT9.out.y 0).trans rfl
 have z0 : w9.frozen? ⟨g, 0, none⟩ = false := blk_frozen HT9.out.y 0
 go_upto_region 28 with fail
 have HT10 := Lib.hid (HT9.out.put 7 (.bool v4))
 obtain ⟨w10, hw⟩ : ∃ W, (w9.setCell ⟨g, 7, none⟩ (.bool v4)) = W := ⟨_, rfl⟩
 rw [hw] at HT10 ⊢
 clear hw HT9 d7 z7 d0 z0
 have hT : Fr _ w0 w x g 34 _ #[.int .i64 2, .int .i64 v1, .int .i64 v2, .int .i64 v3, .int .i64 0, .int .i64 0, .int .i64 0, .bool v4, .slice none 0 0, .int .i64 0, .int .i64 0, .int .i64 0, .slice none 0 0, .int .i64 0, .int .i64 0, .int .i64 0, .slice none 0 0] _ _ _ := HT10.out
 refine wp_region_list ?_
 refine wpList_load_row rfl 34 (.tmp 4) rfl g rfl 34 _ (0, 0) _ hT.y Tryz.underlying34 rfl (by kernel_rfl) ?_
 refine wpList_store_row rfl 34 (.tmp 2) (.tmp 94) rfl w.heap.size _ rfl rfl 34 _ hT.g0 (by kernel_rfl) rfl (by simp [Value.oneCell']) ?_
 go_wp2_with fail
 refine bodyPost_ret (results_cell_row rfl _ _ w.heap.size 34 _ (0, 0) _ rfl hT.fin.1 Tryz.underlying34 rfl (by kernel_rfl)) rfl ?_
 rw [HF.out]
 exact ⟨_, _, _, rfl, Kd.R_nil _ _ _ _ _, Kd.R_nil _ _ _ _ _, Kd.R_nil _ _ _ _ _, hT.fin.2.2.1, hT.fin.2.2.2.1, hT.fin.2.2.2.2⟩
set_option maxHeartbeats 4000000 in
theorem eMsg4 {w0 w : World} {x : Nat} {s : EyeS} (hI : IsEye w0 w x s) (hB : Below w0.heap.size w0 w) (hok : okS s) (hk : (eNum s).1 = 4) (he : (eNum s).2.e = 0) :
  Calls Tryz.prog 60 #[.pointer (some ⟨x, 0, none⟩)] w fun e w' => MsP (fun W s => IsEye w0 W x s) w0 w x (eMsg s).1 (eMsg s).2 e w' := by
 have HT1 := Lib.hid (Fo.start (I := fun W s => IsEye w0 W x s) (T := 34) (zs := #[.int .i64 0, .int .i64 0, .int .i64 0, .int .i64 0, .int .i64 0, .int .i64 0, .int .i64 0, .bool false, .slice none 0 0, .int .i64 0, .int .i64 0, .int .i64 0, .slice none 0 0, .int .i64 0, .int .i64 0, .int .i64 0, .slice none 0 0]) hI hB hI.lt hI.ge (fun _ _ _ e h => h.at e))
 obtain ⟨s1, hs1⟩ : ∃ s1, (eNum s).2 = s1 := ⟨_, rfl⟩
 have HN := Lib.hid (And.intro hk hs1)
 have HO0 := Lib.hid hok
 have ho1 := okS_num hok
 rw [hs1] at ho1 he
 have HF0 := Lib.hid (show eMsg s = mBody eSmall eEntry (eList eTr) 4 s1 by
  have hm : eMk s = s1 := by unfold eMk; rw [hk, hs1]; exact eWrong_false _
  unfold eMsg
  rw [hm, if_neg (fun q => q he), hk])
 clear hI hB hok hk hs1
 obtain ⟨v1, hv1⟩ : ∃ v, (eSmall s1).1 = v := ⟨_, rfl⟩
 obtain ⟨s2, hs2⟩ : ∃ t, (eSmall s1).2 = t := ⟨_, rfl⟩
 have ho2 := okS_small ho1
 rw [hs2] at ho2
 have HO1 := Lib.hid ho1; have HE1 := Lib.hid (And.intro hv1 hs2)
 obtain ⟨v2, hv2⟩ : ∃ v, (eSmall s2).1 = v := ⟨_, rfl⟩
 obtain ⟨s3, hs3⟩ : ∃ t, (eSmall s2).2 = t := ⟨_, rfl⟩
 have ho3 := okS_small ho2
 rw [hs3] at ho3
 have HO2 := Lib.hid ho2; have HE2 := Lib.hid (And.intro hv2 hs3)
 obtain ⟨v3, hv3⟩ : ∃ v, (eNum s3).1 = v := ⟨_, rfl⟩
 obtain ⟨s4, hs4⟩ : ∃ t, (eNum s3).2 = t := ⟨_, rfl⟩
 have ho4 := okS_num ho3
 rw [hs4] at ho4
 have HO3 := Lib.hid ho3; have HE3 := Lib.hid (And.intro hv3 hs4)
 obtain ⟨v4, hv4⟩ : ∃ v, (eYes s4).1 = v := ⟨_, rfl⟩
 obtain ⟨s5, hs5⟩ : ∃ t, (eYes s4).2 = t := ⟨_, rfl⟩
 have ho5 := okS_yes ho4
 rw [hs5] at ho5
 have HO4 := Lib.hid ho4; have HE4 := Lib.hid (And.intro hv4 hs5)
 obtain ⟨v5, hv5⟩ : ∃ v, (eNum s5).1 = v := ⟨_, rfl⟩
 obtain ⟨s6, hs6⟩ : ∃ t, (eNum s5).2 = t := ⟨_, rfl⟩
 have ho6 := okS_num ho5
 rw [hs6] at ho6
 have HO5 := Lib.hid ho5; have HE5 := Lib.hid (And.intro hv5 hs6)
 have HF := Lib.hid (show eMsg s = (⟨4, v1, v2, v3, v5, 0, 0, v4, [], zE, zP⟩, s6) by
  rw [HF0.out]
  unfold mBody
  rw [if_neg (by decide)]; rw [if_neg (by decide)]; rw [if_neg (by decide)]; rw [if_pos rfl]
  simp only [FM, PR, enOf, hv1, hs2, hv2, hs3, hv3, hs4, hv4, hs5, hv5, hs6])
 clear HF0 hv1 hs2 ho1 hv2 hs3 ho2 hv3 hs4 ho3 hv4 hs5 ho4 hv5 hs6 ho5 ho6
 have HQ := Lib.hid (show (s1.e != 0) = false by rw [he]; rfl)
 clear he
 go_enter Tryz.func60, Tryz.ntmps60
 go_upto_region 1 with fail
 obtain ⟨w1, hw1⟩ : ∃ w1, w.alloc (.cells #[.int .i64 0, .int .i64 0, .int .i64 0, .int .i64 0, .int .i64 0, .int .i64 0, .int .i64 0, .bool false, .slice none 0 0, .int .i64 0, .int .i64 0, .int .i64 0, .slice none 0 0, .int .i64 0, .int .i64 0, .int .i64 0, .slice none 0 0] 34) = w1 := ⟨_, rfl⟩
 rw [hw1] at HT1 ⊢
 clear hw1
 go_wp2_with fail
 have h4 := eNum_is HT1.out.i HT1.out.d HO0.out
 rw [HN.out.1, HN.out.2] at h4
 refine h4.mono ?_
 rintro e w2 ⟨rfl, h1, h2, h3⟩
 have HT2 := Lib.hid (HT1.out.call h1 h2 h3)
 clear h1 h2 h3 h4 HT1 HN
 go_wp2_with fail
 have h4 := eWrong_is HT2.out.i HT2.out.d false
 rw [eWrong_false] at h4
 refine h4.mono ?_
 rintro e w3 ⟨rfl, h1, h2, h3⟩
 have HT3 := Lib.hid (HT2.out.call h1 h2 h3)
 clear h1 h2 h3 h4 HT2
 have c1 : w3.cell? ⟨x, 1, none⟩ = some (.int .i64 s1.e) := by
  obtain ⟨A, c, g1, _⟩ := HT3.out.i
  simp [World.cell?, g1]
 have hq := HQ.out
 go_wp2_with fail
 clear c1 hq
 have h4 := eSmall_is HT3.out.i HT3.out.d HO1.out
 rw [HE1.out.1, HE1.out.2] at h4
 refine h4.mono ?_
 rintro e w4 ⟨rfl, h1, h2, h3⟩
 have HT4 := Lib.hid (HT3.out.call h1 h2 h3)
 clear h1 h2 h3 h4 HT3
 go_wp2_with fail
 have h4 := eSmall_is HT4.out.i HT4.out.d HO2.out
 rw [HE2.out.1, HE2.out.2] at h4
 refine h4.mono ?_
 rintro e w5 ⟨rfl, h1, h2, h3⟩
 have HT5 := Lib.hid (HT4.out.call h1 h2 h3)
 clear h1 h2 h3 h4 HT4
 go_upto_region 6 with fail
 have HT6 := Lib.hid (HT5.out.lay #[.int .i64 4, .int .i64 v1, .int .i64 v2, .int .i64 0, .int .i64 0, .int .i64 0, .int .i64 0, .bool false, .slice none 0 0, .int .i64 0, .int .i64 0, .int .i64 0, .slice none 0 0, .int .i64 0, .int .i64 0, .int .i64 0, .slice none 0 0])
 obtain ⟨g, hg⟩ : ∃ g, w5.heap.size = g := ⟨_, rfl⟩
 obtain ⟨w6, hw6⟩ : ∃ w6, w5.alloc (.cells #[.int .i64 4, .int .i64 v1, .int .i64 v2, .int .i64 0, .int .i64 0, .int .i64 0, .int .i64 0, .bool false, .slice none 0 0, .int .i64 0, .int .i64 0, .int .i64 0, .slice none 0 0, .int .i64 0, .int .i64 0, .int .i64 0, .slice none 0 0] 34) = w6 := ⟨_, rfl⟩
 rw [hg, hw6] at HT6
 rw [hw6, hg]
 clear hg hw6 HT5
 have b0 : w6.cell? ⟨g, 0, none⟩ = some (.int .i64 4) := (blk_cell HT6.out.y 0).trans rfl
 go_wp2_with fail
 have h4 := eNum_is HT6.out.i HT6.out.d HO3.out
 rw [HE3.out.1, HE3.out.2] at h4
 refine h4.mono ?_
 rintro e w7 ⟨rfl, h1, h2, h3⟩
 have HT7 := Lib.hid (HT6.out.call h1 h2 h3)
 clear h1 h2 h3 h4 HT6
 clear b0
 have d3 : w7.cell? ⟨g, 3, none⟩ = some (.int .i64 0) := (blk_cell HT7.out.y 3).trans rfl
 have z3 : w7.frozen? ⟨g, 3, none⟩ = false := blk_frozen HT7.out.y 3
 have d0 : w7.cell? ⟨g, 0, none⟩ = some (.int .i64 4) := (blk_cell HT7.out.y 0).trans rfl
 have z0 : w7.frozen? ⟨g, 0, none⟩ = false := blk_frozen HT7.out.y 0
 go_wp2_with fail
 have HT8 := Lib.hid (HT7.out.put 3 (.int .i64 v3))
 obtain ⟨w8, hw⟩ : ∃ W, (w7.setCell ⟨g, 3, none⟩ (.int .i64 v3)) = W := ⟨_, rfl⟩
 rw [hw] at HT8 ⊢
 clear hw HT7 d3 z3 d0 z0
 have h4 := eYes_is HT8.out.i HT8.out.d HO4.out
 rw [HE4.out.1, HE4.out.2] at h4
 refine h4.mono ?_
 rintro e w9 ⟨rfl, h1, h2, h3⟩
 have HT9 := Lib.hid (HT8.out.call h1 h2 h3)
 clear h1 h2 h3 h4 HT8
 have d7 : w9.cell? ⟨g, 7, none⟩ = some (.bool false) := (blk_cell HT9.out.y 7).trans rfl
 have z7 : w9.frozen? ⟨g, 7, none⟩ = false := blk_frozen HT9.out.y 7
 have d0 : w9.cell? ⟨g, 0, none⟩ = some (.int .i64 4) := (blk_cell HT9.out.y 0).trans rfl
 have z0 : w9.frozen? ⟨g, 0, none⟩ = false := blk_frozen HT9.out.y 0
 go_wp2_with fail
 have HT10 := Lib.hid (HT9.out.put 7 (.bool v4))
 obtain ⟨w10, hw⟩ : ∃ W, (w9.setCell ⟨g, 7, none⟩ (.bool v4)) = W := ⟨_, rfl⟩
 rw [hw] at HT10 ⊢
 clear hw HT9 d7 z7 d0 z0
 have h4 := eNum_is HT10.out.i HT10.out.d HO5.out
 rw [HE5.out.1, HE5.out.2] at h4
 refine h4.mono ?_
 rintro e w11 ⟨rfl, h1, h2, h3⟩
 have HT11 := Lib.hid (HT10.out.call h1 h2 h3)
 clear h1 h2 h3 h4 HT10
 have d4 : w11.cell? ⟨g, 4, none⟩ = some (.int .i64 0) := (blk_cell HT11.out.y 4).trans rfl
 have z4 : w11.frozen? ⟨g, 4, none⟩ = false := blk_frozen HT11.out.y 4
 have d0 : w11.cell? ⟨g, 0, none⟩ = some (.int .i64 4) := (blk_cell HT11.out.y 0).trans rfl
 have z0 : w11.frozen? ⟨g, 0, none⟩ = false := blk_frozen HT11.out.y 0
 go_upto_region 28 with fail
 have HT12 := Lib.hid (HT11.out.put 4 (.int .i64 v5))
 obtain ⟨w12, hw⟩ : ∃ W, (w11.setCell ⟨g, 4, none⟩ (.int .i64 v5)) = W := ⟨_, rfl⟩
 rw [hw] at HT12 ⊢
 clear hw HT11 d4 z4 d0 z0
 have hT : Fr _ w0 w x g 34 _ #[.int .i64 4, .int .i64 v1, .int .i64 v2, .int .i64 v3, .int .i64 v5, .int .i64 0, .int .i64 0, .bool v4, .slice none 0 0, .int .i64 0, .int .i64 0, .int .i64 0, .slice none 0 0, .int .i64 0, .int .i64 0, .int .i64 0, .slice none 0 0] _ _ _ := HT12.out
 refine wp_region_list ?_
 refine wpList_load_row rfl 34 (.tmp 4) rfl g rfl 34 _ (0, 0) _ hT.y Tryz.underlying34 rfl (by kernel_rfl) ?_
 refine wpList_store_row rfl 34 (.tmp 2) (.tmp 94) rfl w.heap.size _ rfl rfl 34 _ hT.g0 (by kernel_rfl) rfl (by simp [Value.oneCell']) ?_
 go_wp2_with fail
 refine bodyPost_ret (results_cell_row rfl _ _ w.heap.size 34 _ (0, 0) _ rfl hT.fin.1 Tryz.underlying34 rfl (by kernel_rfl)) rfl ?_
 rw [HF.out]
 exact ⟨_, _, _, rfl, Kd.R_nil _ _ _ _ _, Kd.R_nil _ _ _ _ _, Kd.R_nil _ _ _ _ _, hT.fin.2.2.1, hT.fin.2.2.2.1, hT.fin.2.2.2.2⟩
end Go.Proofs.YtgiefblcckikeaaGreat.M
end
