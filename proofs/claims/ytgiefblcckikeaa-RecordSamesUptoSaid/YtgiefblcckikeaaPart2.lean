/- RecordSamesUptoSaid: contracts of the functions that the law goes through, put together in build order (part 3 of 7). -/
import Derived.Test.YtgiefblcckikeaaPart1
import Derived.WalkKit
import Derived.Below
import Derived.Lib.SmallJoins
import Derived.Lib.Hide
section

-- Written by a program of this session's (wip/gprint.py over the kit's printer).
namespace Go.Proofs.Ytgiefblcckikeaa.G
open Go.RowKit Go.Proofs.YtgiefblcckikeaaW.PrintWords Go.Proofs.YtgiefblcckikeaaW.PrintLast Go.Proofs.YtgiefblcckikeaaW.PrintMore
attribute [local go_sem] max2_int min2_int max_two min_two max_three min_three max_four min_four   -- for this text's walks alone
set_option linter.unusedVariables false
set_option linter.unusedSimpArgs false
mutual
def trivetref04_SameEntry.j0 : Nat → Bool → Int → Int → Int → List (S36) → Int → Int → Int → List (S36) → Option (Bool)
  | 0, _, _, _, _, _, _, _, _, _ => none
  | k + 1, x33, x135000, x135001, x135002, x135003, x136000, x136001, x136002, x136003 => if x33 = true then (some false) else (trivetref04_SameEntry.l0 k 0 x135000 x135001 x135002 x135003 x136000 x136001 x136002 x136003)
def trivetref04_SameEntry.l0 : Nat → Int → Int → Int → Int → List (S36) → Int → Int → Int → List (S36) → Option (Bool)
  | 0, _, _, _, _, _, _, _, _, _ => none
  | k + 1, x5, x135000, x135001, x135002, x135003, x136000, x136001, x136002, x136003 => if x5 < (x135003.length : Int) then (if 0 ≤ x5 then (if x5 < (x136003.length : Int) then ((trivetref04_SameTxn.f k ((rd_T36 x135003 x5).f0) ((rd_T36 x135003 x5).f1) ((rd_T36 x135003 x5).f2) ((rd_T36 x135003 x5).f3) ((rd_T36 x135003 x5).f4) ((rd_T36 x135003 x5).f5) ((rd_T36 x136003 x5).f0) ((rd_T36 x136003 x5).f1) ((rd_T36 x136003 x5).f2) ((rd_T36 x136003 x5).f3) ((rd_T36 x136003 x5).f4) ((rd_T36 x136003 x5).f5)).bind fun t138 => (if t138 = true then (trivetref04_SameEntry.l0 k (wrap64 (x5 + 1)) x135000 x135001 x135002 x135003 x136000 x136001 x136002 x136003) else (some false))) else (none)) else (none)) else (some true)
end
def trivetref04_SameEntry.f (k : Nat) (a0_0 : Int) (a0_1 : Int) (a0_2 : Int) (l0_3 : List (S36)) (a1_0 : Int) (a1_1 : Int) (a1_2 : Int) (l1_3 : List (S36)) : Option (Bool) := if a0_0 = a1_0 then (if a0_1 = a1_1 then (if a0_2 = a1_2 then (trivetref04_SameEntry.j0 k ((l0_3.length : Int) != (l1_3.length : Int)) a0_0 a0_1 a0_2 l0_3 a1_0 a1_1 a1_2 l1_3) else (trivetref04_SameEntry.j0 k true a0_0 a0_1 a0_2 l0_3 a1_0 a1_1 a1_2 l1_3)) else (trivetref04_SameEntry.j0 k true a0_0 a0_1 a0_2 l0_3 a1_0 a1_1 a1_2 l1_3)) else (trivetref04_SameEntry.j0 k true a0_0 a0_1 a0_2 l0_3 a1_0 a1_1 a1_2 l1_3)
theorem trivetref04_SameEntry.mono_l : ∀ k, (∀ y0 y1 y2 y3 y4 y5 y6 y7 y8, LeO (trivetref04_SameEntry.j0 k y0 y1 y2 y3 y4 y5 y6 y7 y8) (trivetref04_SameEntry.j0 (k + 1) y0 y1 y2 y3 y4 y5 y6 y7 y8)) ∧ (∀ y0 y1 y2 y3 y4 y5 y6 y7 y8, LeO (trivetref04_SameEntry.l0 k y0 y1 y2 y3 y4 y5 y6 y7 y8) (trivetref04_SameEntry.l0 (k + 1) y0 y1 y2 y3 y4 y5 y6 y7 y8))
  | 0 => ⟨fun _ _ _ _ _ _ _ _ _ r h => by simp [trivetref04_SameEntry.j0] at h, fun _ _ _ _ _ _ _ _ _ r h => by simp [trivetref04_SameEntry.l0] at h⟩
  | k + 1 => by
    obtain ⟨ih0, ih1⟩ := trivetref04_SameEntry.mono_l k
    refine ⟨?_, ?_⟩
    · intro y0 y1 y2 y3 y4 y5 y6 y7 y8
      unfold trivetref04_SameEntry.j0
      repeat' first
      | (with_reducible exact ih0 _ _ _ _ _ _ _ _ _)
      | (with_reducible exact ih1 _ _ _ _ _ _ _ _ _)
      | (with_reducible exact trivetref04_SameTxn.mono _ _ _ _ _ _ _ _ _ _ _ _ _)
      | (with_reducible exact LeO.refl _)
      | (with_reducible exact LeO.none _)
      | (with_reducible refine LeO.ite ?_ ?_)
      | (with_reducible refine LeO.bind ?_ (fun _ => ?_))
      | exact ih0 _ _ _ _ _ _ _ _ _
      | exact ih1 _ _ _ _ _ _ _ _ _
      | exact trivetref04_SameTxn.mono _ _ _ _ _ _ _ _ _ _ _ _ _
      | exact LeO.none _
      | refine LeO.ite ?_ ?_
      | refine LeO.bind ?_ (fun _ => ?_)
    · intro y0 y1 y2 y3 y4 y5 y6 y7 y8
      unfold trivetref04_SameEntry.l0
      repeat' first
      | (with_reducible exact ih0 _ _ _ _ _ _ _ _ _)
      | (with_reducible exact ih1 _ _ _ _ _ _ _ _ _)
      | (with_reducible exact trivetref04_SameTxn.mono _ _ _ _ _ _ _ _ _ _ _ _ _)
      | (with_reducible exact LeO.refl _)
      | (with_reducible exact LeO.none _)
      | (with_reducible refine LeO.ite ?_ ?_)
      | (with_reducible refine LeO.bind ?_ (fun _ => ?_))
      | exact ih0 _ _ _ _ _ _ _ _ _
      | exact ih1 _ _ _ _ _ _ _ _ _
      | exact trivetref04_SameTxn.mono _ _ _ _ _ _ _ _ _ _ _ _ _
      | exact LeO.none _
      | refine LeO.ite ?_ ?_
      | refine LeO.bind ?_ (fun _ => ?_)
theorem trivetref04_SameEntry.mono : ∀ a0 a1 a2 a3 a4 a5 a6 a7 k, LeO (trivetref04_SameEntry.f k a0 a1 a2 a3 a4 a5 a6 a7) (trivetref04_SameEntry.f (k + 1) a0 a1 a2 a3 a4 a5 a6 a7) := by
  intro a0 a1 a2 a3 a4 a5 a6 a7 k
  obtain ⟨ih0, ih1⟩ := trivetref04_SameEntry.mono_l k
  unfold trivetref04_SameEntry.f
  repeat' first
      | (with_reducible exact ih0 _ _ _ _ _ _ _ _ _)
      | (with_reducible exact ih1 _ _ _ _ _ _ _ _ _)
      | (with_reducible exact trivetref04_SameTxn.mono _ _ _ _ _ _ _ _ _ _ _ _ _)
      | (with_reducible exact LeO.refl _)
      | (with_reducible exact LeO.none _)
      | (with_reducible refine LeO.ite ?_ ?_)
      | (with_reducible refine LeO.bind ?_ (fun _ => ?_))
      | exact ih0 _ _ _ _ _ _ _ _ _
      | exact ih1 _ _ _ _ _ _ _ _ _
      | exact trivetref04_SameTxn.mono _ _ _ _ _ _ _ _ _ _ _ _ _
      | exact LeO.none _
      | refine LeO.ite ?_ ?_
      | refine LeO.bind ?_ (fun _ => ?_)
def trivetref04_SameEntry.T6 : Bool × List (List Nat × List Nat) := (true, [([], []), ([0], [0]), ([], []), ([1, 2], [1, 2]), ([3], [3]), ([], []), ([5], [5]), ([], []), ([6, 7], [6, 7]), ([8], [8]), ([4, 9], [4, 9]), ([10], [10])])
def trivetref04_SameEntry.B6 : List Nat := [0, 1, 0, 7, 15, 0, 32, 0, 224, 480, 1023, 2047]
theorem trivetref04_SameEntry.tab6 : rtab .any (opsOf Try.f10 6) = trivetref04_SameEntry.T6 := by kernel_rfl
theorem trivetref04_SameEntry.bits6 : waitsOk trivetref04_SameEntry.T6.2 trivetref04_SameEntry.B6 = true := by kernel_rfl
set_option maxHeartbeats 8000000 in
set_option maxRecDepth 100000 in
theorem trivetref04_SameEntry.calls (k : Nat) (a0_0 : Int) (a0_1 : Int) (a0_2 : Int) (A0_3 : Option Addr) (c0_3 : Nat) (l0_3 : List (S36)) (a1_0 : Int) (a1_1 : Int) (a1_2 : Int) (A1_3 : Option Addr) (c1_3 : Nat) (l1_3 : List (S36)) (r : Bool) (w : World) (hr0_3 : Kd.C k36 w A0_3 l0_3.length l0_3) (hc0_3 : l0_3.length ≤ c0_3) (hr1_3 : Kd.C k36 w A1_3 l1_3.length l1_3) (hc1_3 : l1_3.length ≤ c1_3) (h : trivetref04_SameEntry.f k a0_0 a0_1 a0_2 l0_3 a1_0 a1_1 a1_2 l1_3 = some r) :
    Calls Try.prog 10 #[.agg #[.int .i64 a0_0, .int .i64 a0_1, .int .i64 a0_2, .slice A0_3 l0_3.length c0_3], .agg #[.int .i64 a1_0, .int .i64 a1_1, .int .i64 a1_2, .slice A1_3 l1_3.length c1_3]] w fun e w' => e = .returned (.bool r) ∧ Below w.heap.size w w' := by
  have hu24 := Try.underlying24
  have hu36 := Try.underlying36
  have HR0_3 := Aside0.mk hr0_3
  have HC0_3 := Aside0.mk hc0_3
  clear hr0_3 hc0_3
  have HR1_3 := Aside0.mk hr1_3
  have HC1_3 := Aside0.mk hc1_3
  clear hr1_3 hc1_3
  have HB := Aside0.mk (Below.refl w.heap.size w)
  have H : (if a0_0 = a1_0 then (if a0_1 = a1_1 then (if a0_2 = a1_2 then (trivetref04_SameEntry.j0 k ((l0_3.length : Int) != (l1_3.length : Int)) a0_0 a0_1 a0_2 l0_3 a1_0 a1_1 a1_2 l1_3) else (trivetref04_SameEntry.j0 k true a0_0 a0_1 a0_2 l0_3 a1_0 a1_1 a1_2 l1_3)) else (trivetref04_SameEntry.j0 k true a0_0 a0_1 a0_2 l0_3 a1_0 a1_1 a1_2 l1_3)) else (trivetref04_SameEntry.j0 k true a0_0 a0_1 a0_2 l0_3 a1_0 a1_1 a1_2 l1_3)) = some r := h
  clear h
  have HC3 := Aside0.mk H
  clear H
  go_enter Try.func10, Try.ntmps10
  go_upto_region 1 with (first | ((with_reducible refine gate_dst (N := 2) rfl ?_); (try (refine gate_guard (by rfl) ?_; dsimp only)); refine box_event ?hg (N := 2) ?hd (cs := #[.int .i64 a0_0, .int .i64 a0_1, .int .i64 a0_2, .slice A0_3 l0_3.length c0_3]) (t := 24) ?hr ?_; (case hd => rfl); (case hg => rfl); (case hr => first | (go_simp; done) | (go_simp; rfl)); intro gb134 hg w4 hbox hb; have n0_ := Aside0.mk (below_step (by repeat (first | (with_reducible first | exact HB.out | apply below_alloc | apply pw_below_drewN | apply below_drew1) | exact HB.out)) hb); have n1_ := Aside0.mk (hbox); have n2_ := Aside0.mk ((by rw [hg]; exact (below_size (by repeat (first | (with_reducible first | exact HB.out | apply below_alloc | apply pw_below_drewN | apply below_drew1) | exact HB.out))) : w.heap.size ≤ gb134)); have n3_ := Aside0.mk ((by rw [hg]; exact (below_size (by repeat (first | (with_reducible first | exact HB.out | apply below_alloc | apply pw_below_drewN | apply below_drew1) | exact HB.out))) : w.heap.size ≤ gb134)); clear HB; have HB := n0_; have BK134 := n1_; have GW134 := n2_; have GE134 := n3_; clear n0_ n1_ n2_ n3_; clear hb hbox hg) | ((with_reducible refine gate_dst (N := 3) rfl ?_); (try (refine gate_guard (by rfl) ?_; dsimp only)); refine box_event ?hg (N := 3) ?hd (cs := #[.int .i64 a1_0, .int .i64 a1_1, .int .i64 a1_2, .slice A1_3 l1_3.length c1_3]) (t := 24) ?hr ?_; (case hd => rfl); (case hg => rfl); (case hr => first | (go_simp; done) | (go_simp; rfl)); intro gb135 hg w5 hbox hb; have n0_ := Aside0.mk (blk_below (g := gb134) (o := .cells #[.int .i64 a0_0, .int .i64 a0_1, .int .i64 a0_2, .slice A0_3 l0_3.length c0_3] 24 (0, 0)) (by (with_reducible repeat (first | refine blk_drewN ?_ _ | refine blk_drew ?_ | refine blk_alloc ?_ _)); exact BK134.out) hb); have n1_ := Aside0.mk (below_step (by repeat (first | (with_reducible first | exact HB.out | apply below_alloc | apply pw_below_drewN | apply below_drew1 | refine below_set ?_ GE134.out) | exact HB.out)) hb); have n2_ := Aside0.mk (hbox); have n3_ := Aside0.mk ((by rw [hg]; exact (below_size (by repeat (first | (with_reducible first | exact HB.out | apply below_alloc | apply pw_below_drewN | apply below_drew1 | refine below_set ?_ GE134.out) | exact HB.out))) : w.heap.size ≤ gb135)); have n4_ := Aside0.mk ((by rw [hg]; exact (below_size (by repeat (first | (with_reducible first | exact HB.out | apply below_alloc | apply pw_below_drewN | apply below_drew1 | refine below_set ?_ GE134.out) | exact HB.out))) : w.heap.size ≤ gb135)); have n5_ := Aside0.mk ((by rw [hg]; exact Nat.ne_of_lt (blk_lt (g := gb134) (o := .cells #[.int .i64 a0_0, .int .i64 a0_1, .int .i64 a0_2, .slice A0_3 l0_3.length c0_3] 24 (0, 0)) (by (with_reducible repeat (first | refine blk_drewN ?_ _ | refine blk_drew ?_ | refine blk_alloc ?_ _)); exact BK134.out)) : gb134 ≠ gb135)); have n6_ := Aside0.mk ((by rw [hg]; exact Nat.ne_of_gt (blk_lt (g := gb134) (o := .cells #[.int .i64 a0_0, .int .i64 a0_1, .int .i64 a0_2, .slice A0_3 l0_3.length c0_3] 24 (0, 0)) (by (with_reducible repeat (first | refine blk_drewN ?_ _ | refine blk_drew ?_ | refine blk_alloc ?_ _)); exact BK134.out)) : gb135 ≠ gb134)); clear BK134; clear HB; have BK134 := n0_; have HB := n1_; have BK135 := n2_; have GW135 := n3_; have GE135 := n4_; have NB134_135 := n5_; have NB135_134 := n6_; clear n0_ n1_ n2_ n3_ n4_ n5_ n6_; clear hb hbox hg))
  (try simp only [Act.put, List.setIfInBounds_toArray, List.set_cons_zero, List.set_cons_succ])
  go_cut [33] (fun v33 wc => ∃ (kq : Nat) (x33_2 : Bool), v33 = .bool x33_2 ∧ Aside0 (trivetref04_SameEntry.j0 kq x33_2 a0_0 a0_1 a0_2 l0_3 a1_0 a1_1 a1_2 l1_3 = some r) ∧ Aside0 (kq ≤ k) ∧ Aside0 (wc.heap[gb134]? = some (.cells #[.int .i64 a0_0, .int .i64 a0_1, .int .i64 a0_2, (.slice A0_3 l0_3.length c0_3)] 24 (0, 0))) ∧ Aside0 (wc.heap[gb135]? = some (.cells #[.int .i64 a1_0, .int .i64 a1_1, .int .i64 a1_2, (.slice A1_3 l1_3.length c1_3)] 24 (0, 0))) ∧ Aside0 (Below w.heap.size w wc))
  case first =>
    have H := HC3.out
    clear HC3
    by_cases c6 : a0_0 = a1_0
    · rw [if_pos c6] at H
      have c6b0 : (a0_0 == a1_0) = true := beq_iff_eq.mpr c6
      have c6b1 : (a0_0 != a1_0) = false := bne_eq_false_iff_eq.mpr c6
      clear c6
      (first | rw [c6b0] | (simp only [i64_w, i32_w]; rw [c6b0]) | skip)
      by_cases c7 : a0_1 = a1_1
      · rw [if_pos c7] at H
        have c7b0 : (a0_1 == a1_1) = true := beq_iff_eq.mpr c7
        have c7b1 : (a0_1 != a1_1) = false := bne_eq_false_iff_eq.mpr c7
        clear c7
        by_cases c8 : a0_2 = a1_2
        · rw [if_pos c8] at H
          have c8b0 : (a0_2 == a1_2) = true := beq_iff_eq.mpr c8
          have c8b1 : (a0_2 != a1_2) = false := bne_eq_false_iff_eq.mpr c8
          clear c8
          have H' := Aside0.mk H
          clear H
          have hnb9 := NB134_135.out
          have hnc9 := NB135_134.out
          have hcz10_0 : w5.cell? ⟨gb134, 0, none⟩ = some (.int .i64 a0_0) := (blk_cell BK134.out 0).trans rfl
          have hcz10_1 : w5.cell? ⟨gb134, 1, none⟩ = some (.int .i64 a0_1) := (blk_cell BK134.out 1).trans rfl
          have hcz10_2 : w5.cell? ⟨gb134, 2, none⟩ = some (.int .i64 a0_2) := (blk_cell BK134.out 2).trans rfl
          have hcz10_3 : w5.cell? ⟨gb134, 3, none⟩ = some (.slice A0_3 l0_3.length c0_3) := (blk_cell BK134.out 3).trans rfl
          have hfz10_0 := blk_frozen BK134.out 0
          have hfz10_1 := blk_frozen BK134.out 1
          have hfz10_2 := blk_frozen BK134.out 2
          have hfz10_3 := blk_frozen BK134.out 3
          have hcz11_0 : w5.cell? ⟨gb135, 0, none⟩ = some (.int .i64 a1_0) := (blk_cell BK135.out 0).trans rfl
          have hcz11_1 : w5.cell? ⟨gb135, 1, none⟩ = some (.int .i64 a1_1) := (blk_cell BK135.out 1).trans rfl
          have hcz11_2 : w5.cell? ⟨gb135, 2, none⟩ = some (.int .i64 a1_2) := (blk_cell BK135.out 2).trans rfl
          have hcz11_3 : w5.cell? ⟨gb135, 3, none⟩ = some (.slice A1_3 l1_3.length c1_3) := (blk_cell BK135.out 3).trans rfl
          have hfz11_0 := blk_frozen BK135.out 0
          have hfz11_1 := blk_frozen BK135.out 1
          have hfz11_2 := blk_frozen BK135.out 2
          have hfz11_3 := blk_frozen BK135.out 3
          go_wp2
          go_meet
          case rel => exact ⟨_, (((l0_3.length : Int) != (l1_3.length : Int))), (by first | rfl | (simp; done) | (simp [*]; done)), H', ⟨by first | omega | exact Nat.le_refl _⟩, ⟨by (with_reducible repeat (first | refine blk_drewN ?_ _ | refine blk_drew ?_ | refine blk_alloc ?_ _)); exact BK134.out⟩, ⟨by (with_reducible repeat (first | refine blk_drewN ?_ _ | refine blk_drew ?_ | refine blk_alloc ?_ _)); exact BK135.out⟩, ⟨by repeat (first | (with_reducible first | exact HB.out | apply below_alloc | apply pw_below_drewN | apply below_drew1 | refine below_set ?_ GE134.out | refine below_set ?_ GE135.out) | exact HB.out)⟩⟩
        · rw [if_neg c8] at H
          have c8b0 : (a0_2 == a1_2) = false := beq_eq_false_iff_ne.mpr c8
          have c8b1 : (a0_2 != a1_2) = true := bne_iff_ne.mpr c8
          have H' := Aside0.mk H
          clear H
          have hnb12 := NB134_135.out
          have hnc12 := NB135_134.out
          have hcz13_0 : w5.cell? ⟨gb134, 0, none⟩ = some (.int .i64 a0_0) := (blk_cell BK134.out 0).trans rfl
          have hcz13_1 : w5.cell? ⟨gb134, 1, none⟩ = some (.int .i64 a0_1) := (blk_cell BK134.out 1).trans rfl
          have hcz13_2 : w5.cell? ⟨gb134, 2, none⟩ = some (.int .i64 a0_2) := (blk_cell BK134.out 2).trans rfl
          have hcz13_3 : w5.cell? ⟨gb134, 3, none⟩ = some (.slice A0_3 l0_3.length c0_3) := (blk_cell BK134.out 3).trans rfl
          have hfz13_0 := blk_frozen BK134.out 0
          have hfz13_1 := blk_frozen BK134.out 1
          have hfz13_2 := blk_frozen BK134.out 2
          have hfz13_3 := blk_frozen BK134.out 3
          have hcz14_0 : w5.cell? ⟨gb135, 0, none⟩ = some (.int .i64 a1_0) := (blk_cell BK135.out 0).trans rfl
          have hcz14_1 : w5.cell? ⟨gb135, 1, none⟩ = some (.int .i64 a1_1) := (blk_cell BK135.out 1).trans rfl
          have hcz14_2 : w5.cell? ⟨gb135, 2, none⟩ = some (.int .i64 a1_2) := (blk_cell BK135.out 2).trans rfl
          have hcz14_3 : w5.cell? ⟨gb135, 3, none⟩ = some (.slice A1_3 l1_3.length c1_3) := (blk_cell BK135.out 3).trans rfl
          have hfz14_0 := blk_frozen BK135.out 0
          have hfz14_1 := blk_frozen BK135.out 1
          have hfz14_2 := blk_frozen BK135.out 2
          have hfz14_3 := blk_frozen BK135.out 3
          go_wp2
          go_meet
          case rel => exact ⟨_, (true), (by first | rfl | (simp; done) | (simp [*]; done)), H', ⟨by first | omega | exact Nat.le_refl _⟩, ⟨by (with_reducible repeat (first | refine blk_drewN ?_ _ | refine blk_drew ?_ | refine blk_alloc ?_ _)); exact BK134.out⟩, ⟨by (with_reducible repeat (first | refine blk_drewN ?_ _ | refine blk_drew ?_ | refine blk_alloc ?_ _)); exact BK135.out⟩, ⟨by repeat (first | (with_reducible first | exact HB.out | apply below_alloc | apply pw_below_drewN | apply below_drew1 | refine below_set ?_ GE134.out | refine below_set ?_ GE135.out) | exact HB.out)⟩⟩
      · rw [if_neg c7] at H
        have c7b0 : (a0_1 == a1_1) = false := beq_eq_false_iff_ne.mpr c7
        have c7b1 : (a0_1 != a1_1) = true := bne_iff_ne.mpr c7
        have H' := Aside0.mk H
        clear H
        have hnb15 := NB134_135.out
        have hnc15 := NB135_134.out
        have hcz16_0 : w5.cell? ⟨gb134, 0, none⟩ = some (.int .i64 a0_0) := (blk_cell BK134.out 0).trans rfl
        have hcz16_1 : w5.cell? ⟨gb134, 1, none⟩ = some (.int .i64 a0_1) := (blk_cell BK134.out 1).trans rfl
        have hcz16_2 : w5.cell? ⟨gb134, 2, none⟩ = some (.int .i64 a0_2) := (blk_cell BK134.out 2).trans rfl
        have hcz16_3 : w5.cell? ⟨gb134, 3, none⟩ = some (.slice A0_3 l0_3.length c0_3) := (blk_cell BK134.out 3).trans rfl
        have hfz16_0 := blk_frozen BK134.out 0
        have hfz16_1 := blk_frozen BK134.out 1
        have hfz16_2 := blk_frozen BK134.out 2
        have hfz16_3 := blk_frozen BK134.out 3
        have hcz17_0 : w5.cell? ⟨gb135, 0, none⟩ = some (.int .i64 a1_0) := (blk_cell BK135.out 0).trans rfl
        have hcz17_1 : w5.cell? ⟨gb135, 1, none⟩ = some (.int .i64 a1_1) := (blk_cell BK135.out 1).trans rfl
        have hcz17_2 : w5.cell? ⟨gb135, 2, none⟩ = some (.int .i64 a1_2) := (blk_cell BK135.out 2).trans rfl
        have hcz17_3 : w5.cell? ⟨gb135, 3, none⟩ = some (.slice A1_3 l1_3.length c1_3) := (blk_cell BK135.out 3).trans rfl
        have hfz17_0 := blk_frozen BK135.out 0
        have hfz17_1 := blk_frozen BK135.out 1
        have hfz17_2 := blk_frozen BK135.out 2
        have hfz17_3 := blk_frozen BK135.out 3
        go_wp2
        go_meet
        case rel => exact ⟨_, (true), (by first | rfl | (simp; done) | (simp [*]; done)), H', ⟨by first | omega | exact Nat.le_refl _⟩, ⟨by (with_reducible repeat (first | refine blk_drewN ?_ _ | refine blk_drew ?_ | refine blk_alloc ?_ _)); exact BK134.out⟩, ⟨by (with_reducible repeat (first | refine blk_drewN ?_ _ | refine blk_drew ?_ | refine blk_alloc ?_ _)); exact BK135.out⟩, ⟨by repeat (first | (with_reducible first | exact HB.out | apply below_alloc | apply pw_below_drewN | apply below_drew1 | refine below_set ?_ GE134.out | refine below_set ?_ GE135.out) | exact HB.out)⟩⟩
    · rw [if_neg c6] at H
      have c6b0 : (a0_0 == a1_0) = false := beq_eq_false_iff_ne.mpr c6
      have c6b1 : (a0_0 != a1_0) = true := bne_iff_ne.mpr c6
      (first | rw [c6b0] | (simp only [i64_w, i32_w]; rw [c6b0]) | skip)
      have H' := Aside0.mk H
      clear H
      have hnb18 := NB134_135.out
      have hnc18 := NB135_134.out
      have hcz19_0 : w5.cell? ⟨gb134, 0, none⟩ = some (.int .i64 a0_0) := (blk_cell BK134.out 0).trans rfl
      have hcz19_1 : w5.cell? ⟨gb134, 1, none⟩ = some (.int .i64 a0_1) := (blk_cell BK134.out 1).trans rfl
      have hcz19_2 : w5.cell? ⟨gb134, 2, none⟩ = some (.int .i64 a0_2) := (blk_cell BK134.out 2).trans rfl
      have hcz19_3 : w5.cell? ⟨gb134, 3, none⟩ = some (.slice A0_3 l0_3.length c0_3) := (blk_cell BK134.out 3).trans rfl
      have hfz19_0 := blk_frozen BK134.out 0
      have hfz19_1 := blk_frozen BK134.out 1
      have hfz19_2 := blk_frozen BK134.out 2
      have hfz19_3 := blk_frozen BK134.out 3
      have hcz20_0 : w5.cell? ⟨gb135, 0, none⟩ = some (.int .i64 a1_0) := (blk_cell BK135.out 0).trans rfl
      have hcz20_1 : w5.cell? ⟨gb135, 1, none⟩ = some (.int .i64 a1_1) := (blk_cell BK135.out 1).trans rfl
      have hcz20_2 : w5.cell? ⟨gb135, 2, none⟩ = some (.int .i64 a1_2) := (blk_cell BK135.out 2).trans rfl
      have hcz20_3 : w5.cell? ⟨gb135, 3, none⟩ = some (.slice A1_3 l1_3.length c1_3) := (blk_cell BK135.out 3).trans rfl
      have hfz20_0 := blk_frozen BK135.out 0
      have hfz20_1 := blk_frozen BK135.out 1
      have hfz20_2 := blk_frozen BK135.out 2
      have hfz20_3 := blk_frozen BK135.out 3
      go_wp2
      go_meet
      case rel => exact ⟨_, (true), (by first | rfl | (simp; done) | (simp [*]; done)), H', ⟨by first | omega | exact Nat.le_refl _⟩, ⟨by (with_reducible repeat (first | refine blk_drewN ?_ _ | refine blk_drew ?_ | refine blk_alloc ?_ _)); exact BK134.out⟩, ⟨by (with_reducible repeat (first | refine blk_drewN ?_ _ | refine blk_drew ?_ | refine blk_alloc ?_ _)); exact BK135.out⟩, ⟨by repeat (first | (with_reducible first | exact HB.out | apply below_alloc | apply pw_below_drewN | apply below_drew1 | refine below_set ?_ GE134.out | refine below_set ?_ GE135.out) | exact HB.out)⟩⟩
  case rest =>
    clear HC3
    try clear c1
    try clear p2
    try clear c6
    try clear c6b0
    try clear c6b1
    try clear c7
    try clear c7b0
    try clear c7b1
    try clear c8
    try clear c8b0
    try clear c8b1
    try clear c9
    try clear c10
    try clear c12
    try clear c15
    try clear c18
    try clear hcz10_0
    try clear hcz10_1
    try clear hcz10_2
    try clear hcz10_3
    try clear hcz11_0
    try clear hcz11_1
    try clear hcz11_2
    try clear hcz11_3
    try clear hcz13_0
    try clear hcz13_1
    try clear hcz13_2
    try clear hcz13_3
    try clear hcz14_0
    try clear hcz14_1
    try clear hcz14_2
    try clear hcz14_3
    try clear hcz16_0
    try clear hcz16_1
    try clear hcz16_2
    try clear hcz16_3
    try clear hcz17_0
    try clear hcz17_1
    try clear hcz17_2
    try clear hcz17_3
    try clear hcz19_0
    try clear hcz19_1
    try clear hcz19_2
    try clear hcz19_3
    try clear hcz20_0
    try clear hcz20_1
    try clear hcz20_2
    try clear hcz20_3
    try clear hfz10_0
    try clear hfz10_1
    try clear hfz10_2
    try clear hfz10_3
    try clear hfz11_0
    try clear hfz11_1
    try clear hfz11_2
    try clear hfz11_3
    try clear hfz13_0
    try clear hfz13_1
    try clear hfz13_2
    try clear hfz13_3
    try clear hfz14_0
    try clear hfz14_1
    try clear hfz14_2
    try clear hfz14_3
    try clear hfz16_0
    try clear hfz16_1
    try clear hfz16_2
    try clear hfz16_3
    try clear hfz17_0
    try clear hfz17_1
    try clear hfz17_2
    try clear hfz17_3
    try clear hfz19_0
    try clear hfz19_1
    try clear hfz19_2
    try clear hfz19_3
    try clear hfz20_0
    try clear hfz20_1
    try clear hfz20_2
    try clear hfz20_3
    obtain ⟨kq, x33_2, rfl, HA, HJ2, BK134, BK135, HB⟩ := hcut
    cases kq with
    | zero => exact absurd HA.out (by simp [trivetref04_SameEntry.j0])
    | succ kj2 =>
      have H := HA.out
      clear HA
      simp only [trivetref04_SameEntry.j0] at H
      by_cases c21 : x33_2 = true
      · subst c21
        have H1 : (some false) = some r := by rw [if_pos rfl] at H; exact H
        clear H
        have H := H1
        clear H1
        obtain rfl := Option.some.inj H
        go_wp2
        go_ret
        exact ⟨by first | rfl | (simp [errW_none, errW_some] <;> rfl) | (simp [*, errW_none, errW_some] <;> rfl), by repeat (first | (with_reducible first | exact HB.out | apply below_alloc | apply pw_below_drewN | apply below_drew1 | refine below_set ?_ GE134.out | refine below_set ?_ GE135.out) | exact HB.out)⟩
      · replace c21 := Bool.eq_false_iff.mpr c21
        subst c21
        have H1 : (trivetref04_SameEntry.l0 kj2 0 a0_0 a0_1 a0_2 l0_3 a1_0 a1_1 a1_2 l1_3) = some r := by rw [if_neg (show ¬ (false = true) by decide)] at H; exact H
        clear H
        have H := H1
        clear H1
        have H' := Aside0.mk H
        clear H
        go_wp2
        go_loopg [5] kj2 (fun kq v5 w' => ∃ (x5_2 : Int), v5 = .int .i64 x5_2 ∧ Aside0 (trivetref04_SameEntry.l0 kq x5_2 a0_0 a0_1 a0_2 l0_3 a1_0 a1_1 a1_2 l1_3 = some r) ∧ Aside0 (kq ≤ kj2) ∧ Aside0 (w'.heap[gb134]? = some (.cells #[.int .i64 a0_0, .int .i64 a0_1, .int .i64 a0_2, (.slice A0_3 l0_3.length c0_3)] 24 (0, 0))) ∧ Aside0 (w'.heap[gb135]? = some (.cells #[.int .i64 a1_0, .int .i64 a1_1, .int .i64 a1_2, (.slice A1_3 l1_3.length c1_3)] 24 (0, 0))) ∧ Aside0 (Below w.heap.size w w'))
        case atStart => exact ⟨(0), (by first | rfl | (simp; done) | (simp [*]; done)), H', ⟨Nat.le_refl _⟩, ⟨by (with_reducible repeat (first | refine blk_drewN ?_ _ | refine blk_drew ?_ | refine blk_alloc ?_ _)); exact BK134.out⟩, ⟨by (with_reducible repeat (first | refine blk_drewN ?_ _ | refine blk_drew ?_ | refine blk_alloc ?_ _)); exact BK135.out⟩, ⟨by repeat (first | (with_reducible first | exact HB.out | apply below_alloc | apply pw_below_drewN | apply below_drew1 | refine below_set ?_ GE134.out | refine below_set ?_ GE135.out) | exact HB.out)⟩⟩
        case round =>
          clear H'
          try clear c1
          try clear c2
          try clear p2
          try clear c6
          try clear c6b0
          try clear c6b1
          try clear c7
          try clear c7b0
          try clear c7b1
          try clear c8
          try clear c8b0
          try clear c8b1
          try clear c9
          try clear c10
          try clear c12
          try clear c15
          try clear c18
          try clear c21
          try clear hcz10_0
          try clear hcz10_1
          try clear hcz10_2
          try clear hcz10_3
          try clear hcz11_0
          try clear hcz11_1
          try clear hcz11_2
          try clear hcz11_3
          try clear hcz13_0
          try clear hcz13_1
          try clear hcz13_2
          try clear hcz13_3
          try clear hcz14_0
          try clear hcz14_1
          try clear hcz14_2
          try clear hcz14_3
          try clear hcz16_0
          try clear hcz16_1
          try clear hcz16_2
          try clear hcz16_3
          try clear hcz17_0
          try clear hcz17_1
          try clear hcz17_2
          try clear hcz17_3
          try clear hcz19_0
          try clear hcz19_1
          try clear hcz19_2
          try clear hcz19_3
          try clear hcz20_0
          try clear hcz20_1
          try clear hcz20_2
          try clear hcz20_3
          try clear hfz10_0
          try clear hfz10_1
          try clear hfz10_2
          try clear hfz10_3
          try clear hfz11_0
          try clear hfz11_1
          try clear hfz11_2
          try clear hfz11_3
          try clear hfz13_0
          try clear hfz13_1
          try clear hfz13_2
          try clear hfz13_3
          try clear hfz14_0
          try clear hfz14_1
          try clear hfz14_2
          try clear hfz14_3
          try clear hfz16_0
          try clear hfz16_1
          try clear hfz16_2
          try clear hfz16_3
          try clear hfz17_0
          try clear hfz17_1
          try clear hfz17_2
          try clear hfz17_3
          try clear hfz19_0
          try clear hfz19_1
          try clear hfz19_2
          try clear hfz19_3
          try clear hfz20_0
          try clear hfz20_1
          try clear hfz20_2
          try clear hfz20_3
          try clear p2
          obtain ⟨x5_2, rfl, HA, HK2, BK134, BK135, HB⟩ := hrel
          cases gk with
          | zero => exact absurd HA.out (by simp [trivetref04_SameEntry.l0])
          | succ k2 =>
            have H := HA.out
            clear HA
            simp only [trivetref04_SameEntry.l0] at H
            by_cases c22 : x5_2 < (l0_3.length : Int)
            · rw [if_pos c22] at H
              have c22b0 : decide (x5_2 < (l0_3.length : Int)) = true := decide_eq_true c22
              clear c22
              by_cases c23 : 0 ≤ x5_2
              · rw [if_pos c23] at H
                have c23b0 : decide (0 ≤ x5_2) = true := decide_eq_true c23
                clear c23
                by_cases c24 : x5_2 < (l1_3.length : Int)
                · rw [if_pos c24] at H
                  have c24b0 : decide (x5_2 < (l1_3.length : Int)) = true := decide_eq_true c24
                  clear c24
                  replace H := Option.bind_eq_some_iff.mp H
                  obtain ⟨t138, A250, H⟩ := H
                  replace H : (if t138 = true then (trivetref04_SameEntry.l0 k2 (wrap64 (x5_2 + 1)) a0_0 a0_1 a0_2 l0_3 a1_0 a1_1 a1_2 l1_3) else (some false)) = some r := H
                  have A25 := Aside0.mk A250
                  clear A250
                  by_cases c26 : t138 = true
                  · subst c26
                    have H1 : (trivetref04_SameEntry.l0 k2 (wrap64 (x5_2 + 1)) a0_0 a0_1 a0_2 l0_3 a1_0 a1_1 a1_2 l1_3) = some r := by rw [if_pos rfl] at H; exact H
                    clear H
                    have H := H1
                    clear H1
                    have H' := Aside0.mk H
                    clear H
                    have hnb27 := NB134_135.out
                    have hnc27 := NB135_134.out
                    have hcz28_0 : wr.cell? ⟨gb134, 0, none⟩ = some (.int .i64 a0_0) := (blk_cell BK134.out 0).trans rfl
                    have hcz28_1 : wr.cell? ⟨gb134, 1, none⟩ = some (.int .i64 a0_1) := (blk_cell BK134.out 1).trans rfl
                    have hcz28_2 : wr.cell? ⟨gb134, 2, none⟩ = some (.int .i64 a0_2) := (blk_cell BK134.out 2).trans rfl
                    have hcz28_3 : wr.cell? ⟨gb134, 3, none⟩ = some (.slice A0_3 l0_3.length c0_3) := (blk_cell BK134.out 3).trans rfl
                    have hfz28_0 := blk_frozen BK134.out 0
                    have hfz28_1 := blk_frozen BK134.out 1
                    have hfz28_2 := blk_frozen BK134.out 2
                    have hfz28_3 := blk_frozen BK134.out 3
                    try go_wp2
                    have n0_ := Aside0.mk (blk_drew BK134.out)
                    have n1_ := Aside0.mk (blk_drew BK135.out)
                    have n2_ := Aside0.mk (below_drew1 HB.out)
                    clear BK134
                    clear BK135
                    clear HB
                    have BK134 := n0_
                    have BK135 := n1_
                    have HB := n2_
                    clear n0_ n1_ n2_
                    have p136 : 0 ≤ (x5_2 : Int) := of_decide_eq_true (by first | (with_reducible assumption) | assumption)
                    have q136 : x5_2 < (l0_3.length : Int) := of_decide_eq_true (by first | (with_reducible assumption) | assumption)
                    obtain ⟨ad136, A136_2, c136_2, A136_3, c136_3, A136_4, c136_4, A136_5, c136_5, e136, hx136_0, hx136_1, hx136_2, hx136_3, hx136_4, hx136_5, hl136_2, hi136_2, hl136_3, hi136_3, hl136_4, hi136_4, hl136_5, hi136_5⟩ := at_T36 HR0_3.out x5_2 p136 q136
                    have hw136_5 := hx136_5
                    have hw136_4 := hx136_4
                    have hw136_3 := hx136_3
                    have hw136_2 := hx136_2
                    have hw136_1 := hx136_1
                    have hw136_0 := hx136_0
                    cases e136
                    replace hx136_0 := (HB.out.cell (World.block_lt_of_cell? w _ hx136_0)).trans hx136_0
                    replace hx136_1 := (HB.out.cell (World.block_lt_of_cell? w _ hx136_1)).trans hx136_1
                    replace hx136_2 := (HB.out.cell (World.block_lt_of_cell? w _ hx136_2)).trans hx136_2
                    replace hx136_3 := (HB.out.cell (World.block_lt_of_cell? w _ hx136_3)).trans hx136_3
                    replace hx136_4 := (HB.out.cell (World.block_lt_of_cell? w _ hx136_4)).trans hx136_4
                    replace hx136_5 := (HB.out.cell (World.block_lt_of_cell? w _ hx136_5)).trans hx136_5
                    have HR136_2 := Aside0.mk hi136_2
                    have HC136_2 := Aside0.mk hl136_2
                    clear hi136_2 hl136_2
                    have HR136_3 := Aside0.mk hi136_3
                    have HC136_3 := Aside0.mk hl136_3
                    clear hi136_3 hl136_3
                    have HR136_4 := Aside0.mk hi136_4
                    have HC136_4 := Aside0.mk hl136_4
                    clear hi136_4 hl136_4
                    have HR136_5 := Aside0.mk hi136_5
                    have HC136_5 := Aside0.mk hl136_5
                    clear hi136_5 hl136_5
                    replace p136 := eq_true p136
                    replace q136 := eq_true q136
                    have p137 : 0 ≤ (x5_2 : Int) := of_decide_eq_true (by first | (with_reducible assumption) | assumption)
                    have q137 : x5_2 < (l1_3.length : Int) := of_decide_eq_true (by first | (with_reducible assumption) | assumption)
                    obtain ⟨ad137, A137_2, c137_2, A137_3, c137_3, A137_4, c137_4, A137_5, c137_5, e137, hx137_0, hx137_1, hx137_2, hx137_3, hx137_4, hx137_5, hl137_2, hi137_2, hl137_3, hi137_3, hl137_4, hi137_4, hl137_5, hi137_5⟩ := at_T36 HR1_3.out x5_2 p137 q137
                    have hw137_5 := hx137_5
                    have hw137_4 := hx137_4
                    have hw137_3 := hx137_3
                    have hw137_2 := hx137_2
                    have hw137_1 := hx137_1
                    have hw137_0 := hx137_0
                    cases e137
                    replace hx137_0 := (HB.out.cell (World.block_lt_of_cell? w _ hx137_0)).trans hx137_0
                    replace hx137_1 := (HB.out.cell (World.block_lt_of_cell? w _ hx137_1)).trans hx137_1
                    replace hx137_2 := (HB.out.cell (World.block_lt_of_cell? w _ hx137_2)).trans hx137_2
                    replace hx137_3 := (HB.out.cell (World.block_lt_of_cell? w _ hx137_3)).trans hx137_3
                    replace hx137_4 := (HB.out.cell (World.block_lt_of_cell? w _ hx137_4)).trans hx137_4
                    replace hx137_5 := (HB.out.cell (World.block_lt_of_cell? w _ hx137_5)).trans hx137_5
                    have HR137_2 := Aside0.mk hi137_2
                    have HC137_2 := Aside0.mk hl137_2
                    clear hi137_2 hl137_2
                    have HR137_3 := Aside0.mk hi137_3
                    have HC137_3 := Aside0.mk hl137_3
                    clear hi137_3 hl137_3
                    have HR137_4 := Aside0.mk hi137_4
                    have HC137_4 := Aside0.mk hl137_4
                    clear hi137_4 hl137_4
                    have HR137_5 := Aside0.mk hi137_5
                    have HC137_5 := Aside0.mk hl137_5
                    clear hi137_5 hl137_5
                    replace p137 := eq_true p137
                    replace q137 := eq_true q137
                    refine start_ (n := 12) (S := fun w' => w'.cell? ⟨gb134, 0, none⟩ = some (.int .i64 a0_0) ∧ w'.cell? ⟨gb134, 1, none⟩ = some (.int .i64 a0_1) ∧ w'.cell? ⟨gb134, 2, none⟩ = some (.int .i64 a0_2) ∧ w'.cell? ⟨gb134, 3, none⟩ = some (.slice (some ad136) l0_3.length c0_3) ∧ w'.cell? ⟨gb135, 0, none⟩ = some (.int .i64 a1_0) ∧ w'.cell? ⟨gb135, 1, none⟩ = some (.int .i64 a1_1) ∧ w'.cell? ⟨gb135, 2, none⟩ = some (.int .i64 a1_2) ∧ w'.cell? ⟨gb135, 3, none⟩ = some (.slice (some ad137) l1_3.length c1_3) ∧ w'.cell? (ad136.add ((x5_2).toNat * 6)) = some (.int .i64 ((rd_T36 l0_3 x5_2).f0)) ∧ w'.cell? ⟨(ad136.add ((x5_2).toNat * 6)).block, (ad136.add ((x5_2).toNat * 6)).off + 1, none⟩ = some (.int .i64 ((rd_T36 l0_3 x5_2).f1)) ∧ w'.cell? ⟨(ad136.add ((x5_2).toNat * 6)).block, (ad136.add ((x5_2).toNat * 6)).off + 2, none⟩ = some (.slice A136_2 ((rd_T36 l0_3 x5_2).f2).length c136_2) ∧ w'.cell? ⟨(ad136.add ((x5_2).toNat * 6)).block, (ad136.add ((x5_2).toNat * 6)).off + 3, none⟩ = some (.slice A136_3 ((rd_T36 l0_3 x5_2).f3).length c136_3) ∧ w'.cell? ⟨(ad136.add ((x5_2).toNat * 6)).block, (ad136.add ((x5_2).toNat * 6)).off + 4, none⟩ = some (.slice A136_4 ((rd_T36 l0_3 x5_2).f4).length c136_4) ∧ w'.cell? ⟨(ad136.add ((x5_2).toNat * 6)).block, (ad136.add ((x5_2).toNat * 6)).off + 5, none⟩ = some (.slice A136_5 ((rd_T36 l0_3 x5_2).f5).length c136_5) ∧ w'.cell? (ad137.add ((x5_2).toNat * 6)) = some (.int .i64 ((rd_T36 l1_3 x5_2).f0)) ∧ w'.cell? ⟨(ad137.add ((x5_2).toNat * 6)).block, (ad137.add ((x5_2).toNat * 6)).off + 1, none⟩ = some (.int .i64 ((rd_T36 l1_3 x5_2).f1)) ∧ w'.cell? ⟨(ad137.add ((x5_2).toNat * 6)).block, (ad137.add ((x5_2).toNat * 6)).off + 2, none⟩ = some (.slice A137_2 ((rd_T36 l1_3 x5_2).f2).length c137_2) ∧ w'.cell? ⟨(ad137.add ((x5_2).toNat * 6)).block, (ad137.add ((x5_2).toNat * 6)).off + 3, none⟩ = some (.slice A137_3 ((rd_T36 l1_3 x5_2).f3).length c137_3) ∧ w'.cell? ⟨(ad137.add ((x5_2).toNat * 6)).block, (ad137.add ((x5_2).toNat * 6)).off + 4, none⟩ = some (.slice A137_4 ((rd_T36 l1_3 x5_2).f4).length c137_4) ∧ w'.cell? ⟨(ad137.add ((x5_2).toNat * 6)).block, (ad137.add ((x5_2).toNat * 6)).off + 5, none⟩ = some (.slice A137_5 ((rd_T36 l1_3 x5_2).f5).length c137_5)) (ds := []) #[false, false, false, false, false, false, false, false, false, false, false, false] (by kernel_rfl) rfl rfl ⟨(blk_cell BK134.out 0).trans rfl, (blk_cell BK134.out 1).trans rfl, (blk_cell BK134.out 2).trans rfl, (blk_cell BK134.out 3).trans rfl, (blk_cell BK135.out 0).trans rfl, (blk_cell BK135.out 1).trans rfl, (blk_cell BK135.out 2).trans rfl, (blk_cell BK135.out 3).trans rfl, ((HB.out.cell (World.block_lt_of_cell? w _ hw136_0)).trans hw136_0), ((HB.out.cell (World.block_lt_of_cell? w _ hw136_1)).trans hw136_1), ((HB.out.cell (World.block_lt_of_cell? w _ hw136_2)).trans hw136_2), ((HB.out.cell (World.block_lt_of_cell? w _ hw136_3)).trans hw136_3), ((HB.out.cell (World.block_lt_of_cell? w _ hw136_4)).trans hw136_4), ((HB.out.cell (World.block_lt_of_cell? w _ hw136_5)).trans hw136_5), ((HB.out.cell (World.block_lt_of_cell? w _ hw137_0)).trans hw137_0), ((HB.out.cell (World.block_lt_of_cell? w _ hw137_1)).trans hw137_1), ((HB.out.cell (World.block_lt_of_cell? w _ hw137_2)).trans hw137_2), ((HB.out.cell (World.block_lt_of_cell? w _ hw137_3)).trans hw137_3), ((HB.out.cell (World.block_lt_of_cell? w _ hw137_4)).trans hw137_4), ((HB.out.cell (World.block_lt_of_cell? w _ hw137_5)).trans hw137_5)⟩ (fun hHeld => ?_); refine with_tabW trivetref04_SameEntry.tab6 trivetref04_SameEntry.bits6 (fun HT_ HW_ => ?_)
                    generalize wr.drew = w29 at BK134 BK135 HB HR136_2 HR136_3 HR136_4 HR136_5 HR137_2 HR137_3 HR137_4 HR137_5 hx136_0 hx136_1 hx136_2 hx136_3 hx136_4 hx136_5 hx137_0 hx137_1 hx137_2 hx137_3 hx137_4 hx137_5 hHeld ⊢
                    refine pure_ (i := 0) (N := some 41) (v := ?_) (a' := ?_) #[true, false, false, false, false, false, false, false, false, false, false, false] rfl rfl (any_of HT_.out (by kernel_rfl)) (fun _ _ _ h => h) (Or.inl ⟨by rfl, ?_⟩) ?_ ?_
                    rotate_left
                    · intro w'
                      go_simp
                      with_reducible rfl
                    rotate_left
                    · simp only [Act.put, List.setIfInBounds_toArray, List.set_cons_zero, List.set_cons_succ, i64_w, i32_w]
                      rfl
                    refine pure_ (i := 2) (N := some 43) (v := ?_) (a' := ?_) #[true, false, true, false, false, false, false, false, false, false, false, false] rfl rfl (any_of HT_.out (by kernel_rfl)) (fun _ _ _ h => h) (Or.inl ⟨by rfl, ?_⟩) ?_ ?_
                    rotate_left
                    · intro w'
                      go_simp
                      with_reducible rfl
                    rotate_left
                    · simp only [Act.put, List.setIfInBounds_toArray, List.set_cons_zero, List.set_cons_succ, i64_w, i32_w]
                      rfl
                    refine pure_ (i := 5) (N := some 46) (v := ?_) (a' := ?_) #[true, false, true, false, false, true, false, false, false, false, false, false] rfl rfl (any_of HT_.out (by kernel_rfl)) (fun _ _ _ h => h) (Or.inl ⟨by rfl, ?_⟩) ?_ ?_
                    rotate_left
                    · intro w'
                      go_simp
                      with_reducible rfl
                    rotate_left
                    · simp only [Act.put, List.setIfInBounds_toArray, List.set_cons_zero, List.set_cons_succ, i64_w, i32_w]
                      rfl
                    refine pure_ (i := 7) (N := some 48) (v := ?_) (a' := ?_) #[true, false, true, false, false, true, false, true, false, false, false, false] rfl rfl (any_of HT_.out (by kernel_rfl)) (fun _ _ _ h => h) (Or.inl ⟨by rfl, ?_⟩) ?_ ?_
                    rotate_left
                    · intro w'
                      go_simp
                      with_reducible rfl
                    rotate_left
                    · simp only [Act.put, List.setIfInBounds_toArray, List.set_cons_zero, List.set_cons_succ, i64_w, i32_w]
                      rfl
                    refine take_ (i := 1) (N := some 42) (v := ?_) (a' := ?_) #[true, true, true, false, false, true, false, true, false, false, false, false] rfl rfl (take_ofW HT_.out HW_.out (by kernel_rfl)) (fun _ _ _ h => h) (Or.inl ⟨by rfl, ?_⟩) hHeld ?_ ?_
                    rotate_left
                    · rintro w' ⟨s0, s1, s2, s3, s4, s5, s6, s7, s8, s9, s10, s11, s12, s13, s14, s15, s16, s17, s18, s19⟩
                      go_simp
                      with_reducible rfl
                    rotate_left
                    · simp only [Act.put, List.setIfInBounds_toArray, List.set_cons_zero, List.set_cons_succ, i64_w, i32_w]
                      rfl
                    refine pure_ (i := 3) (N := some 44) (v := ?_) (a' := ?_) #[true, true, true, true, false, true, false, true, false, false, false, false] rfl rfl (any_of HT_.out (by kernel_rfl)) (fun _ _ _ h => h) (Or.inl ⟨by rfl, ?_⟩) ?_ ?_
                    rotate_left
                    · intro w'
                      go_simp
                      with_reducible rfl
                    rotate_left
                    · simp only [Act.put, List.setIfInBounds_toArray, List.set_cons_zero, List.set_cons_succ, i64_w, i32_w]
                      rfl
                    refine take_ (i := 4) (N := some 45) (v := ?_) (a' := ?_) #[true, true, true, true, true, true, false, true, false, false, false, false] rfl rfl (take_ofW HT_.out HW_.out (by kernel_rfl)) (fun _ _ _ h => h) (Or.inl ⟨by rfl, ?_⟩) hHeld ?_ ?_
                    rotate_left
                    · rintro w' ⟨s0, s1, s2, s3, s4, s5, s6, s7, s8, s9, s10, s11, s12, s13, s14, s15, s16, s17, s18, s19⟩
                      go_simp
                      with_reducible rfl
                    rotate_left
                    · simp only [Act.put, List.setIfInBounds_toArray, List.set_cons_zero, List.set_cons_succ, i64_w, i32_w]
                      rfl
                    refine take_ (i := 6) (N := some 47) (v := ?_) (a' := ?_) #[true, true, true, true, true, true, true, true, false, false, false, false] rfl rfl (take_ofW HT_.out HW_.out (by kernel_rfl)) (fun _ _ _ h => h) (Or.inl ⟨by rfl, ?_⟩) hHeld ?_ ?_
                    rotate_left
                    · rintro w' ⟨s0, s1, s2, s3, s4, s5, s6, s7, s8, s9, s10, s11, s12, s13, s14, s15, s16, s17, s18, s19⟩
                      go_simp
                      with_reducible rfl
                    rotate_left
                    · simp only [Act.put, List.setIfInBounds_toArray, List.set_cons_zero, List.set_cons_succ, i64_w, i32_w]
                      rfl
                    refine pure_ (i := 8) (N := some 49) (v := ?_) (a' := ?_) #[true, true, true, true, true, true, true, true, true, false, false, false] rfl rfl (any_of HT_.out (by kernel_rfl)) (fun _ _ _ h => h) (Or.inl ⟨by rfl, ?_⟩) ?_ ?_
                    rotate_left
                    · intro w'
                      go_simp
                      with_reducible rfl
                    rotate_left
                    · simp only [Act.put, List.setIfInBounds_toArray, List.set_cons_zero, List.set_cons_succ, i64_w, i32_w]
                      rfl
                    refine take_ (i := 9) (N := some 50) (v := ?_) (a' := ?_) #[true, true, true, true, true, true, true, true, true, true, false, false] rfl rfl (take_ofW HT_.out HW_.out (by kernel_rfl)) (fun _ _ _ h => h) (Or.inl ⟨by rfl, ?_⟩) hHeld ?_ ?_
                    rotate_left
                    · rintro w' ⟨s0, s1, s2, s3, s4, s5, s6, s7, s8, s9, s10, s11, s12, s13, s14, s15, s16, s17, s18, s19⟩
                      go_simp
                      with_reducible rfl
                    rotate_left
                    · simp only [Act.put, List.setIfInBounds_toArray, List.set_cons_zero, List.set_cons_succ, i64_w, i32_w]
                      rfl
                    refine one_ (i := 10) (N := some 51) #[true, true, true, true, true, true, true, true, true, true, true, false] rfl rfl (one_of HT_.out (by kernel_rfl)) (by decide) (fun K hK => ?_)
                    refine goes_ Try.func22 (by kernel_rfl) rfl #[.agg #[.int .i64 ((rd_T36 l0_3 x5_2).f0), .int .i64 ((rd_T36 l0_3 x5_2).f1), .slice A136_2 ((rd_T36 l0_3 x5_2).f2).length c136_2, .slice A136_3 ((rd_T36 l0_3 x5_2).f3).length c136_3, .slice A136_4 ((rd_T36 l0_3 x5_2).f4).length c136_4, .slice A136_5 ((rd_T36 l0_3 x5_2).f5).length c136_5], .agg #[.int .i64 ((rd_T36 l1_3 x5_2).f0), .int .i64 ((rd_T36 l1_3 x5_2).f1), .slice A137_2 ((rd_T36 l1_3 x5_2).f2).length c137_2, .slice A137_3 ((rd_T36 l1_3 x5_2).f3).length c137_3, .slice A137_4 ((rd_T36 l1_3 x5_2).f4).length c137_4, .slice A137_5 ((rd_T36 l1_3 x5_2).f5).length c137_5]] (by rfl) rfl rfl (by (try simp only [List.map_toArray, List.map_cons, List.map_nil]); first | done | rfl | (simp only [List.length_drop, List.length_take]; rfl)) ?_
                    with_reducible refine (trivetref04_SameTxn.calls k2 ((rd_T36 l0_3 x5_2).f0) ((rd_T36 l0_3 x5_2).f1) _ _ ((rd_T36 l0_3 x5_2).f2) _ _ ((rd_T36 l0_3 x5_2).f3) _ _ ((rd_T36 l0_3 x5_2).f4) _ _ ((rd_T36 l0_3 x5_2).f5) ((rd_T36 l1_3 x5_2).f0) ((rd_T36 l1_3 x5_2).f1) _ _ ((rd_T36 l1_3 x5_2).f2) _ _ ((rd_T36 l1_3 x5_2).f3) _ _ ((rd_T36 l1_3 x5_2).f4) _ _ ((rd_T36 l1_3 x5_2).f5) true _ ?side1 ?side2 ?side3 ?side4 ?side5 ?side6 ?side7 ?side8 ?side9 ?side10 ?side11 ?side12 ?side13 ?side14 ?side15 ?side16 A25.out).mono ?_
                    (case side1 => repeat (first | exact (Kd.C_below HR136_2.out HB.out) | (with_reducible refine Kd.C_alloc ?_ _) | (with_reducible refine Kd.C_drewN ?_ _) | (with_reducible refine Kd.C_drew ?_)))
                    (case side2 => exact HC136_2.out)
                    (case side3 => repeat (first | exact (Kd.C_below HR136_3.out HB.out) | (with_reducible refine Kd.C_alloc ?_ _) | (with_reducible refine Kd.C_drewN ?_ _) | (with_reducible refine Kd.C_drew ?_)))
                    (case side4 => exact HC136_3.out)
                    (case side5 => repeat (first | exact (Kd.C_below HR136_4.out HB.out) | (with_reducible refine Kd.C_alloc ?_ _) | (with_reducible refine Kd.C_drewN ?_ _) | (with_reducible refine Kd.C_drew ?_)))
                    (case side6 => exact HC136_4.out)
                    (case side7 => repeat (first | exact (Kd.C_below HR136_5.out HB.out) | (with_reducible refine Kd.C_alloc ?_ _) | (with_reducible refine Kd.C_drewN ?_ _) | (with_reducible refine Kd.C_drew ?_)))
                    (case side8 => exact HC136_5.out)
                    (case side9 => repeat (first | exact (Kd.C_below HR137_2.out HB.out) | (with_reducible refine Kd.C_alloc ?_ _) | (with_reducible refine Kd.C_drewN ?_ _) | (with_reducible refine Kd.C_drew ?_)))
                    (case side10 => exact HC137_2.out)
                    (case side11 => repeat (first | exact (Kd.C_below HR137_3.out HB.out) | (with_reducible refine Kd.C_alloc ?_ _) | (with_reducible refine Kd.C_drewN ?_ _) | (with_reducible refine Kd.C_drew ?_)))
                    (case side12 => exact HC137_3.out)
                    (case side13 => repeat (first | exact (Kd.C_below HR137_4.out HB.out) | (with_reducible refine Kd.C_alloc ?_ _) | (with_reducible refine Kd.C_drewN ?_ _) | (with_reducible refine Kd.C_drew ?_)))
                    (case side14 => exact HC137_4.out)
                    (case side15 => repeat (first | exact (Kd.C_below HR137_5.out HB.out) | (with_reducible refine Kd.C_alloc ?_ _) | (with_reducible refine Kd.C_drewN ?_ _) | (with_reducible refine Kd.C_drew ?_)))
                    (case side16 => exact HC137_5.out)
                    rintro e w30 ⟨rfl, hb⟩
                    refine ⟨_, rfl, ?_⟩
                    have n0_ := Aside0.mk (blk_below (g := gb134) (o := .cells #[.int .i64 a0_0, .int .i64 a0_1, .int .i64 a0_2, .slice (some ad136) l0_3.length c0_3] 24 (0, 0)) (by (with_reducible repeat (first | refine blk_drewN ?_ _ | refine blk_drew ?_ | refine blk_alloc ?_ _)); exact BK134.out) hb)
                    have n1_ := Aside0.mk (blk_below (g := gb135) (o := .cells #[.int .i64 a1_0, .int .i64 a1_1, .int .i64 a1_2, .slice (some ad137) l1_3.length c1_3] 24 (0, 0)) (by (with_reducible repeat (first | refine blk_drewN ?_ _ | refine blk_drew ?_ | refine blk_alloc ?_ _)); exact BK135.out) hb)
                    have n2_ := Aside0.mk (below_step (by repeat (first | (with_reducible first | exact HB.out | apply below_alloc | apply pw_below_drewN | apply below_drew1 | refine below_set ?_ GE134.out | refine below_set ?_ GE135.out) | exact HB.out)) hb)
                    clear BK134
                    clear BK135
                    clear HB
                    have BK134 := n0_
                    have BK135 := n1_
                    have HB := n2_
                    clear n0_ n1_ n2_
                    (try clear hb)
                    (try clear hb2)
                    (try clear hk)
                    (try clear hi)
                    refine hK.out _ _ ⟨(blk_cell BK134.out 0).trans rfl, (blk_cell BK134.out 1).trans rfl, (blk_cell BK134.out 2).trans rfl, (blk_cell BK134.out 3).trans rfl, (blk_cell BK135.out 0).trans rfl, (blk_cell BK135.out 1).trans rfl, (blk_cell BK135.out 2).trans rfl, (blk_cell BK135.out 3).trans rfl, ((HB.out.cell (World.block_lt_of_cell? w _ hw136_0)).trans hw136_0), ((HB.out.cell (World.block_lt_of_cell? w _ hw136_1)).trans hw136_1), ((HB.out.cell (World.block_lt_of_cell? w _ hw136_2)).trans hw136_2), ((HB.out.cell (World.block_lt_of_cell? w _ hw136_3)).trans hw136_3), ((HB.out.cell (World.block_lt_of_cell? w _ hw136_4)).trans hw136_4), ((HB.out.cell (World.block_lt_of_cell? w _ hw136_5)).trans hw136_5), ((HB.out.cell (World.block_lt_of_cell? w _ hw137_0)).trans hw137_0), ((HB.out.cell (World.block_lt_of_cell? w _ hw137_1)).trans hw137_1), ((HB.out.cell (World.block_lt_of_cell? w _ hw137_2)).trans hw137_2), ((HB.out.cell (World.block_lt_of_cell? w _ hw137_3)).trans hw137_3), ((HB.out.cell (World.block_lt_of_cell? w _ hw137_4)).trans hw137_4), ((HB.out.cell (World.block_lt_of_cell? w _ hw137_5)).trans hw137_5)⟩ (fun hHeld => ?_)
                    clear hK K
                    refine norm_ (a' := ?_) ?_ ?_
                    rotate_left
                    · show Act.put _ (some 51) _ = _
                      simp only [Act.put, List.setIfInBounds_toArray, List.set_cons_zero, List.set_cons_succ, i64_w, i32_w]
                      rfl
                    refine pure_ (i := 11) (N := some 52) (v := ?_) (a' := ?_) #[true, true, true, true, true, true, true, true, true, true, true, true] rfl rfl (any_of HT_.out (by kernel_rfl)) (fun _ _ _ h => h) (Or.inl ⟨by rfl, ?_⟩) ?_ ?_
                    rotate_left
                    · intro w'
                      go_simp
                      with_reducible rfl
                    rotate_left
                    · simp only [Act.put, List.setIfInBounds_toArray, List.set_cons_zero, List.set_cons_succ, i64_w, i32_w]
                      rfl
                    refine done_ (done_of HT_.out (by kernel_rfl)) ?_
                    try go_wp2
                    go_roundg k2
                    case measure => have := HJ2.out; have := HK2.out; omega
                    case rel => exact ⟨(wrap64 (x5_2 + 1)), (by first | rfl | (simp; done) | (simp [*]; done)), H', ⟨by have := HJ2.out; have := HK2.out; omega⟩, ⟨by (with_reducible repeat (first | refine blk_drewN ?_ _ | refine blk_drew ?_ | refine blk_alloc ?_ _)); exact BK134.out⟩, ⟨by (with_reducible repeat (first | refine blk_drewN ?_ _ | refine blk_drew ?_ | refine blk_alloc ?_ _)); exact BK135.out⟩, ⟨by repeat (first | (with_reducible first | exact HB.out | apply below_alloc | apply pw_below_drewN | apply below_drew1 | refine below_set ?_ GE134.out | refine below_set ?_ GE135.out) | exact HB.out)⟩⟩
                  · replace c26 := Bool.eq_false_iff.mpr c26
                    subst c26
                    have H1 : (some false) = some r := by rw [if_neg (show ¬ (false = true) by decide)] at H; exact H
                    clear H
                    have H := H1
                    clear H1
                    obtain rfl := Option.some.inj H
                    have hnb31 := NB134_135.out
                    have hnc31 := NB135_134.out
                    have hcz32_0 : wr.cell? ⟨gb134, 0, none⟩ = some (.int .i64 a0_0) := (blk_cell BK134.out 0).trans rfl
                    have hcz32_1 : wr.cell? ⟨gb134, 1, none⟩ = some (.int .i64 a0_1) := (blk_cell BK134.out 1).trans rfl
                    have hcz32_2 : wr.cell? ⟨gb134, 2, none⟩ = some (.int .i64 a0_2) := (blk_cell BK134.out 2).trans rfl
                    have hcz32_3 : wr.cell? ⟨gb134, 3, none⟩ = some (.slice A0_3 l0_3.length c0_3) := (blk_cell BK134.out 3).trans rfl
                    have hfz32_0 := blk_frozen BK134.out 0
                    have hfz32_1 := blk_frozen BK134.out 1
                    have hfz32_2 := blk_frozen BK134.out 2
                    have hfz32_3 := blk_frozen BK134.out 3
                    try go_wp2
                    have n0_ := Aside0.mk (blk_drew BK134.out)
                    have n1_ := Aside0.mk (blk_drew BK135.out)
                    have n2_ := Aside0.mk (below_drew1 HB.out)
                    clear BK134
                    clear BK135
                    clear HB
                    have BK134 := n0_
                    have BK135 := n1_
                    have HB := n2_
                    clear n0_ n1_ n2_
                    have p136 : 0 ≤ (x5_2 : Int) := of_decide_eq_true (by first | (with_reducible assumption) | assumption)
                    have q136 : x5_2 < (l0_3.length : Int) := of_decide_eq_true (by first | (with_reducible assumption) | assumption)
                    obtain ⟨ad136, A136_2, c136_2, A136_3, c136_3, A136_4, c136_4, A136_5, c136_5, e136, hx136_0, hx136_1, hx136_2, hx136_3, hx136_4, hx136_5, hl136_2, hi136_2, hl136_3, hi136_3, hl136_4, hi136_4, hl136_5, hi136_5⟩ := at_T36 HR0_3.out x5_2 p136 q136
                    have hw136_5 := hx136_5
                    have hw136_4 := hx136_4
                    have hw136_3 := hx136_3
                    have hw136_2 := hx136_2
                    have hw136_1 := hx136_1
                    have hw136_0 := hx136_0
                    cases e136
                    replace hx136_0 := (HB.out.cell (World.block_lt_of_cell? w _ hx136_0)).trans hx136_0
                    replace hx136_1 := (HB.out.cell (World.block_lt_of_cell? w _ hx136_1)).trans hx136_1
                    replace hx136_2 := (HB.out.cell (World.block_lt_of_cell? w _ hx136_2)).trans hx136_2
                    replace hx136_3 := (HB.out.cell (World.block_lt_of_cell? w _ hx136_3)).trans hx136_3
                    replace hx136_4 := (HB.out.cell (World.block_lt_of_cell? w _ hx136_4)).trans hx136_4
                    replace hx136_5 := (HB.out.cell (World.block_lt_of_cell? w _ hx136_5)).trans hx136_5
                    have HR136_2 := Aside0.mk hi136_2
                    have HC136_2 := Aside0.mk hl136_2
                    clear hi136_2 hl136_2
                    have HR136_3 := Aside0.mk hi136_3
                    have HC136_3 := Aside0.mk hl136_3
                    clear hi136_3 hl136_3
                    have HR136_4 := Aside0.mk hi136_4
                    have HC136_4 := Aside0.mk hl136_4
                    clear hi136_4 hl136_4
                    have HR136_5 := Aside0.mk hi136_5
                    have HC136_5 := Aside0.mk hl136_5
                    clear hi136_5 hl136_5
                    replace p136 := eq_true p136
                    replace q136 := eq_true q136
                    have p137 : 0 ≤ (x5_2 : Int) := of_decide_eq_true (by first | (with_reducible assumption) | assumption)
                    have q137 : x5_2 < (l1_3.length : Int) := of_decide_eq_true (by first | (with_reducible assumption) | assumption)
                    obtain ⟨ad137, A137_2, c137_2, A137_3, c137_3, A137_4, c137_4, A137_5, c137_5, e137, hx137_0, hx137_1, hx137_2, hx137_3, hx137_4, hx137_5, hl137_2, hi137_2, hl137_3, hi137_3, hl137_4, hi137_4, hl137_5, hi137_5⟩ := at_T36 HR1_3.out x5_2 p137 q137
                    have hw137_5 := hx137_5
                    have hw137_4 := hx137_4
                    have hw137_3 := hx137_3
                    have hw137_2 := hx137_2
                    have hw137_1 := hx137_1
                    have hw137_0 := hx137_0
                    cases e137
                    replace hx137_0 := (HB.out.cell (World.block_lt_of_cell? w _ hx137_0)).trans hx137_0
                    replace hx137_1 := (HB.out.cell (World.block_lt_of_cell? w _ hx137_1)).trans hx137_1
                    replace hx137_2 := (HB.out.cell (World.block_lt_of_cell? w _ hx137_2)).trans hx137_2
                    replace hx137_3 := (HB.out.cell (World.block_lt_of_cell? w _ hx137_3)).trans hx137_3
                    replace hx137_4 := (HB.out.cell (World.block_lt_of_cell? w _ hx137_4)).trans hx137_4
                    replace hx137_5 := (HB.out.cell (World.block_lt_of_cell? w _ hx137_5)).trans hx137_5
                    have HR137_2 := Aside0.mk hi137_2
                    have HC137_2 := Aside0.mk hl137_2
                    clear hi137_2 hl137_2
                    have HR137_3 := Aside0.mk hi137_3
                    have HC137_3 := Aside0.mk hl137_3
                    clear hi137_3 hl137_3
                    have HR137_4 := Aside0.mk hi137_4
                    have HC137_4 := Aside0.mk hl137_4
                    clear hi137_4 hl137_4
                    have HR137_5 := Aside0.mk hi137_5
                    have HC137_5 := Aside0.mk hl137_5
                    clear hi137_5 hl137_5
                    replace p137 := eq_true p137
                    replace q137 := eq_true q137
                    refine start_ (n := 12) (S := fun w' => w'.cell? ⟨gb134, 0, none⟩ = some (.int .i64 a0_0) ∧ w'.cell? ⟨gb134, 1, none⟩ = some (.int .i64 a0_1) ∧ w'.cell? ⟨gb134, 2, none⟩ = some (.int .i64 a0_2) ∧ w'.cell? ⟨gb134, 3, none⟩ = some (.slice (some ad136) l0_3.length c0_3) ∧ w'.cell? ⟨gb135, 0, none⟩ = some (.int .i64 a1_0) ∧ w'.cell? ⟨gb135, 1, none⟩ = some (.int .i64 a1_1) ∧ w'.cell? ⟨gb135, 2, none⟩ = some (.int .i64 a1_2) ∧ w'.cell? ⟨gb135, 3, none⟩ = some (.slice (some ad137) l1_3.length c1_3) ∧ w'.cell? (ad136.add ((x5_2).toNat * 6)) = some (.int .i64 ((rd_T36 l0_3 x5_2).f0)) ∧ w'.cell? ⟨(ad136.add ((x5_2).toNat * 6)).block, (ad136.add ((x5_2).toNat * 6)).off + 1, none⟩ = some (.int .i64 ((rd_T36 l0_3 x5_2).f1)) ∧ w'.cell? ⟨(ad136.add ((x5_2).toNat * 6)).block, (ad136.add ((x5_2).toNat * 6)).off + 2, none⟩ = some (.slice A136_2 ((rd_T36 l0_3 x5_2).f2).length c136_2) ∧ w'.cell? ⟨(ad136.add ((x5_2).toNat * 6)).block, (ad136.add ((x5_2).toNat * 6)).off + 3, none⟩ = some (.slice A136_3 ((rd_T36 l0_3 x5_2).f3).length c136_3) ∧ w'.cell? ⟨(ad136.add ((x5_2).toNat * 6)).block, (ad136.add ((x5_2).toNat * 6)).off + 4, none⟩ = some (.slice A136_4 ((rd_T36 l0_3 x5_2).f4).length c136_4) ∧ w'.cell? ⟨(ad136.add ((x5_2).toNat * 6)).block, (ad136.add ((x5_2).toNat * 6)).off + 5, none⟩ = some (.slice A136_5 ((rd_T36 l0_3 x5_2).f5).length c136_5) ∧ w'.cell? (ad137.add ((x5_2).toNat * 6)) = some (.int .i64 ((rd_T36 l1_3 x5_2).f0)) ∧ w'.cell? ⟨(ad137.add ((x5_2).toNat * 6)).block, (ad137.add ((x5_2).toNat * 6)).off + 1, none⟩ = some (.int .i64 ((rd_T36 l1_3 x5_2).f1)) ∧ w'.cell? ⟨(ad137.add ((x5_2).toNat * 6)).block, (ad137.add ((x5_2).toNat * 6)).off + 2, none⟩ = some (.slice A137_2 ((rd_T36 l1_3 x5_2).f2).length c137_2) ∧ w'.cell? ⟨(ad137.add ((x5_2).toNat * 6)).block, (ad137.add ((x5_2).toNat * 6)).off + 3, none⟩ = some (.slice A137_3 ((rd_T36 l1_3 x5_2).f3).length c137_3) ∧ w'.cell? ⟨(ad137.add ((x5_2).toNat * 6)).block, (ad137.add ((x5_2).toNat * 6)).off + 4, none⟩ = some (.slice A137_4 ((rd_T36 l1_3 x5_2).f4).length c137_4) ∧ w'.cell? ⟨(ad137.add ((x5_2).toNat * 6)).block, (ad137.add ((x5_2).toNat * 6)).off + 5, none⟩ = some (.slice A137_5 ((rd_T36 l1_3 x5_2).f5).length c137_5)) (ds := []) #[false, false, false, false, false, false, false, false, false, false, false, false] (by kernel_rfl) rfl rfl ⟨(blk_cell BK134.out 0).trans rfl, (blk_cell BK134.out 1).trans rfl, (blk_cell BK134.out 2).trans rfl, (blk_cell BK134.out 3).trans rfl, (blk_cell BK135.out 0).trans rfl, (blk_cell BK135.out 1).trans rfl, (blk_cell BK135.out 2).trans rfl, (blk_cell BK135.out 3).trans rfl, ((HB.out.cell (World.block_lt_of_cell? w _ hw136_0)).trans hw136_0), ((HB.out.cell (World.block_lt_of_cell? w _ hw136_1)).trans hw136_1), ((HB.out.cell (World.block_lt_of_cell? w _ hw136_2)).trans hw136_2), ((HB.out.cell (World.block_lt_of_cell? w _ hw136_3)).trans hw136_3), ((HB.out.cell (World.block_lt_of_cell? w _ hw136_4)).trans hw136_4), ((HB.out.cell (World.block_lt_of_cell? w _ hw136_5)).trans hw136_5), ((HB.out.cell (World.block_lt_of_cell? w _ hw137_0)).trans hw137_0), ((HB.out.cell (World.block_lt_of_cell? w _ hw137_1)).trans hw137_1), ((HB.out.cell (World.block_lt_of_cell? w _ hw137_2)).trans hw137_2), ((HB.out.cell (World.block_lt_of_cell? w _ hw137_3)).trans hw137_3), ((HB.out.cell (World.block_lt_of_cell? w _ hw137_4)).trans hw137_4), ((HB.out.cell (World.block_lt_of_cell? w _ hw137_5)).trans hw137_5)⟩ (fun hHeld => ?_); refine with_tabW trivetref04_SameEntry.tab6 trivetref04_SameEntry.bits6 (fun HT_ HW_ => ?_)
                    generalize wr.drew = w33 at BK134 BK135 HB HR136_2 HR136_3 HR136_4 HR136_5 HR137_2 HR137_3 HR137_4 HR137_5 hx136_0 hx136_1 hx136_2 hx136_3 hx136_4 hx136_5 hx137_0 hx137_1 hx137_2 hx137_3 hx137_4 hx137_5 hHeld ⊢
                    refine pure_ (i := 0) (N := some 41) (v := ?_) (a' := ?_) #[true, false, false, false, false, false, false, false, false, false, false, false] rfl rfl (any_of HT_.out (by kernel_rfl)) (fun _ _ _ h => h) (Or.inl ⟨by rfl, ?_⟩) ?_ ?_
                    rotate_left
                    · intro w'
                      go_simp
                      with_reducible rfl
                    rotate_left
                    · simp only [Act.put, List.setIfInBounds_toArray, List.set_cons_zero, List.set_cons_succ, i64_w, i32_w]
                      rfl
                    refine pure_ (i := 2) (N := some 43) (v := ?_) (a' := ?_) #[true, false, true, false, false, false, false, false, false, false, false, false] rfl rfl (any_of HT_.out (by kernel_rfl)) (fun _ _ _ h => h) (Or.inl ⟨by rfl, ?_⟩) ?_ ?_
                    rotate_left
                    · intro w'
                      go_simp
                      with_reducible rfl
                    rotate_left
                    · simp only [Act.put, List.setIfInBounds_toArray, List.set_cons_zero, List.set_cons_succ, i64_w, i32_w]
                      rfl
                    refine pure_ (i := 5) (N := some 46) (v := ?_) (a' := ?_) #[true, false, true, false, false, true, false, false, false, false, false, false] rfl rfl (any_of HT_.out (by kernel_rfl)) (fun _ _ _ h => h) (Or.inl ⟨by rfl, ?_⟩) ?_ ?_
                    rotate_left
                    · intro w'
                      go_simp
                      with_reducible rfl
                    rotate_left
                    · simp only [Act.put, List.setIfInBounds_toArray, List.set_cons_zero, List.set_cons_succ, i64_w, i32_w]
                      rfl
                    refine pure_ (i := 7) (N := some 48) (v := ?_) (a' := ?_) #[true, false, true, false, false, true, false, true, false, false, false, false] rfl rfl (any_of HT_.out (by kernel_rfl)) (fun _ _ _ h => h) (Or.inl ⟨by rfl, ?_⟩) ?_ ?_
                    rotate_left
                    · intro w'
                      go_simp
                      with_reducible rfl
                    rotate_left
                    · simp only [Act.put, List.setIfInBounds_toArray, List.set_cons_zero, List.set_cons_succ, i64_w, i32_w]
                      rfl
                    refine take_ (i := 1) (N := some 42) (v := ?_) (a' := ?_) #[true, true, true, false, false, true, false, true, false, false, false, false] rfl rfl (take_ofW HT_.out HW_.out (by kernel_rfl)) (fun _ _ _ h => h) (Or.inl ⟨by rfl, ?_⟩) hHeld ?_ ?_
                    rotate_left
                    · rintro w' ⟨s0, s1, s2, s3, s4, s5, s6, s7, s8, s9, s10, s11, s12, s13, s14, s15, s16, s17, s18, s19⟩
                      go_simp
                      with_reducible rfl
                    rotate_left
                    · simp only [Act.put, List.setIfInBounds_toArray, List.set_cons_zero, List.set_cons_succ, i64_w, i32_w]
                      rfl
                    refine pure_ (i := 3) (N := some 44) (v := ?_) (a' := ?_) #[true, true, true, true, false, true, false, true, false, false, false, false] rfl rfl (any_of HT_.out (by kernel_rfl)) (fun _ _ _ h => h) (Or.inl ⟨by rfl, ?_⟩) ?_ ?_
                    rotate_left
                    · intro w'
                      go_simp
                      with_reducible rfl
                    rotate_left
                    · simp only [Act.put, List.setIfInBounds_toArray, List.set_cons_zero, List.set_cons_succ, i64_w, i32_w]
                      rfl
                    refine take_ (i := 4) (N := some 45) (v := ?_) (a' := ?_) #[true, true, true, true, true, true, false, true, false, false, false, false] rfl rfl (take_ofW HT_.out HW_.out (by kernel_rfl)) (fun _ _ _ h => h) (Or.inl ⟨by rfl, ?_⟩) hHeld ?_ ?_
                    rotate_left
                    · rintro w' ⟨s0, s1, s2, s3, s4, s5, s6, s7, s8, s9, s10, s11, s12, s13, s14, s15, s16, s17, s18, s19⟩
                      go_simp
                      with_reducible rfl
                    rotate_left
                    · simp only [Act.put, List.setIfInBounds_toArray, List.set_cons_zero, List.set_cons_succ, i64_w, i32_w]
                      rfl
                    refine take_ (i := 6) (N := some 47) (v := ?_) (a' := ?_) #[true, true, true, true, true, true, true, true, false, false, false, false] rfl rfl (take_ofW HT_.out HW_.out (by kernel_rfl)) (fun _ _ _ h => h) (Or.inl ⟨by rfl, ?_⟩) hHeld ?_ ?_
                    rotate_left
                    · rintro w' ⟨s0, s1, s2, s3, s4, s5, s6, s7, s8, s9, s10, s11, s12, s13, s14, s15, s16, s17, s18, s19⟩
                      go_simp
                      with_reducible rfl
                    rotate_left
                    · simp only [Act.put, List.setIfInBounds_toArray, List.set_cons_zero, List.set_cons_succ, i64_w, i32_w]
                      rfl
                    refine pure_ (i := 8) (N := some 49) (v := ?_) (a' := ?_) #[true, true, true, true, true, true, true, true, true, false, false, false] rfl rfl (any_of HT_.out (by kernel_rfl)) (fun _ _ _ h => h) (Or.inl ⟨by rfl, ?_⟩) ?_ ?_
                    rotate_left
                    · intro w'
                      go_simp
                      with_reducible rfl
                    rotate_left
                    · simp only [Act.put, List.setIfInBounds_toArray, List.set_cons_zero, List.set_cons_succ, i64_w, i32_w]
                      rfl
                    refine take_ (i := 9) (N := some 50) (v := ?_) (a' := ?_) #[true, true, true, true, true, true, true, true, true, true, false, false] rfl rfl (take_ofW HT_.out HW_.out (by kernel_rfl)) (fun _ _ _ h => h) (Or.inl ⟨by rfl, ?_⟩) hHeld ?_ ?_
                    rotate_left
                    · rintro w' ⟨s0, s1, s2, s3, s4, s5, s6, s7, s8, s9, s10, s11, s12, s13, s14, s15, s16, s17, s18, s19⟩
                      go_simp
                      with_reducible rfl
                    rotate_left
                    · simp only [Act.put, List.setIfInBounds_toArray, List.set_cons_zero, List.set_cons_succ, i64_w, i32_w]
                      rfl
                    refine one_ (i := 10) (N := some 51) #[true, true, true, true, true, true, true, true, true, true, true, false] rfl rfl (one_of HT_.out (by kernel_rfl)) (by decide) (fun K hK => ?_)
                    refine goes_ Try.func22 (by kernel_rfl) rfl #[.agg #[.int .i64 ((rd_T36 l0_3 x5_2).f0), .int .i64 ((rd_T36 l0_3 x5_2).f1), .slice A136_2 ((rd_T36 l0_3 x5_2).f2).length c136_2, .slice A136_3 ((rd_T36 l0_3 x5_2).f3).length c136_3, .slice A136_4 ((rd_T36 l0_3 x5_2).f4).length c136_4, .slice A136_5 ((rd_T36 l0_3 x5_2).f5).length c136_5], .agg #[.int .i64 ((rd_T36 l1_3 x5_2).f0), .int .i64 ((rd_T36 l1_3 x5_2).f1), .slice A137_2 ((rd_T36 l1_3 x5_2).f2).length c137_2, .slice A137_3 ((rd_T36 l1_3 x5_2).f3).length c137_3, .slice A137_4 ((rd_T36 l1_3 x5_2).f4).length c137_4, .slice A137_5 ((rd_T36 l1_3 x5_2).f5).length c137_5]] (by rfl) rfl rfl (by (try simp only [List.map_toArray, List.map_cons, List.map_nil]); first | done | rfl | (simp only [List.length_drop, List.length_take]; rfl)) ?_
                    with_reducible refine (trivetref04_SameTxn.calls k2 ((rd_T36 l0_3 x5_2).f0) ((rd_T36 l0_3 x5_2).f1) _ _ ((rd_T36 l0_3 x5_2).f2) _ _ ((rd_T36 l0_3 x5_2).f3) _ _ ((rd_T36 l0_3 x5_2).f4) _ _ ((rd_T36 l0_3 x5_2).f5) ((rd_T36 l1_3 x5_2).f0) ((rd_T36 l1_3 x5_2).f1) _ _ ((rd_T36 l1_3 x5_2).f2) _ _ ((rd_T36 l1_3 x5_2).f3) _ _ ((rd_T36 l1_3 x5_2).f4) _ _ ((rd_T36 l1_3 x5_2).f5) false _ ?side1 ?side2 ?side3 ?side4 ?side5 ?side6 ?side7 ?side8 ?side9 ?side10 ?side11 ?side12 ?side13 ?side14 ?side15 ?side16 A25.out).mono ?_
                    (case side1 => repeat (first | exact (Kd.C_below HR136_2.out HB.out) | (with_reducible refine Kd.C_alloc ?_ _) | (with_reducible refine Kd.C_drewN ?_ _) | (with_reducible refine Kd.C_drew ?_)))
                    (case side2 => exact HC136_2.out)
                    (case side3 => repeat (first | exact (Kd.C_below HR136_3.out HB.out) | (with_reducible refine Kd.C_alloc ?_ _) | (with_reducible refine Kd.C_drewN ?_ _) | (with_reducible refine Kd.C_drew ?_)))
                    (case side4 => exact HC136_3.out)
                    (case side5 => repeat (first | exact (Kd.C_below HR136_4.out HB.out) | (with_reducible refine Kd.C_alloc ?_ _) | (with_reducible refine Kd.C_drewN ?_ _) | (with_reducible refine Kd.C_drew ?_)))
                    (case side6 => exact HC136_4.out)
                    (case side7 => repeat (first | exact (Kd.C_below HR136_5.out HB.out) | (with_reducible refine Kd.C_alloc ?_ _) | (with_reducible refine Kd.C_drewN ?_ _) | (with_reducible refine Kd.C_drew ?_)))
                    (case side8 => exact HC136_5.out)
                    (case side9 => repeat (first | exact (Kd.C_below HR137_2.out HB.out) | (with_reducible refine Kd.C_alloc ?_ _) | (with_reducible refine Kd.C_drewN ?_ _) | (with_reducible refine Kd.C_drew ?_)))
                    (case side10 => exact HC137_2.out)
                    (case side11 => repeat (first | exact (Kd.C_below HR137_3.out HB.out) | (with_reducible refine Kd.C_alloc ?_ _) | (with_reducible refine Kd.C_drewN ?_ _) | (with_reducible refine Kd.C_drew ?_)))
                    (case side12 => exact HC137_3.out)
                    (case side13 => repeat (first | exact (Kd.C_below HR137_4.out HB.out) | (with_reducible refine Kd.C_alloc ?_ _) | (with_reducible refine Kd.C_drewN ?_ _) | (with_reducible refine Kd.C_drew ?_)))
                    (case side14 => exact HC137_4.out)
                    (case side15 => repeat (first | exact (Kd.C_below HR137_5.out HB.out) | (with_reducible refine Kd.C_alloc ?_ _) | (with_reducible refine Kd.C_drewN ?_ _) | (with_reducible refine Kd.C_drew ?_)))
                    (case side16 => exact HC137_5.out)
                    rintro e w34 ⟨rfl, hb⟩
                    refine ⟨_, rfl, ?_⟩
                    have n0_ := Aside0.mk (blk_below (g := gb134) (o := .cells #[.int .i64 a0_0, .int .i64 a0_1, .int .i64 a0_2, .slice (some ad136) l0_3.length c0_3] 24 (0, 0)) (by (with_reducible repeat (first | refine blk_drewN ?_ _ | refine blk_drew ?_ | refine blk_alloc ?_ _)); exact BK134.out) hb)
                    have n1_ := Aside0.mk (blk_below (g := gb135) (o := .cells #[.int .i64 a1_0, .int .i64 a1_1, .int .i64 a1_2, .slice (some ad137) l1_3.length c1_3] 24 (0, 0)) (by (with_reducible repeat (first | refine blk_drewN ?_ _ | refine blk_drew ?_ | refine blk_alloc ?_ _)); exact BK135.out) hb)
                    have n2_ := Aside0.mk (below_step (by repeat (first | (with_reducible first | exact HB.out | apply below_alloc | apply pw_below_drewN | apply below_drew1 | refine below_set ?_ GE134.out | refine below_set ?_ GE135.out) | exact HB.out)) hb)
                    clear BK134
                    clear BK135
                    clear HB
                    have BK134 := n0_
                    have BK135 := n1_
                    have HB := n2_
                    clear n0_ n1_ n2_
                    (try clear hb)
                    (try clear hb2)
                    (try clear hk)
                    (try clear hi)
                    refine hK.out _ _ ⟨(blk_cell BK134.out 0).trans rfl, (blk_cell BK134.out 1).trans rfl, (blk_cell BK134.out 2).trans rfl, (blk_cell BK134.out 3).trans rfl, (blk_cell BK135.out 0).trans rfl, (blk_cell BK135.out 1).trans rfl, (blk_cell BK135.out 2).trans rfl, (blk_cell BK135.out 3).trans rfl, ((HB.out.cell (World.block_lt_of_cell? w _ hw136_0)).trans hw136_0), ((HB.out.cell (World.block_lt_of_cell? w _ hw136_1)).trans hw136_1), ((HB.out.cell (World.block_lt_of_cell? w _ hw136_2)).trans hw136_2), ((HB.out.cell (World.block_lt_of_cell? w _ hw136_3)).trans hw136_3), ((HB.out.cell (World.block_lt_of_cell? w _ hw136_4)).trans hw136_4), ((HB.out.cell (World.block_lt_of_cell? w _ hw136_5)).trans hw136_5), ((HB.out.cell (World.block_lt_of_cell? w _ hw137_0)).trans hw137_0), ((HB.out.cell (World.block_lt_of_cell? w _ hw137_1)).trans hw137_1), ((HB.out.cell (World.block_lt_of_cell? w _ hw137_2)).trans hw137_2), ((HB.out.cell (World.block_lt_of_cell? w _ hw137_3)).trans hw137_3), ((HB.out.cell (World.block_lt_of_cell? w _ hw137_4)).trans hw137_4), ((HB.out.cell (World.block_lt_of_cell? w _ hw137_5)).trans hw137_5)⟩ (fun hHeld => ?_)
                    clear hK K
                    refine norm_ (a' := ?_) ?_ ?_
                    rotate_left
                    · show Act.put _ (some 51) _ = _
                      simp only [Act.put, List.setIfInBounds_toArray, List.set_cons_zero, List.set_cons_succ, i64_w, i32_w]
                      rfl
                    refine pure_ (i := 11) (N := some 52) (v := ?_) (a' := ?_) #[true, true, true, true, true, true, true, true, true, true, true, true] rfl rfl (any_of HT_.out (by kernel_rfl)) (fun _ _ _ h => h) (Or.inl ⟨by rfl, ?_⟩) ?_ ?_
                    rotate_left
                    · intro w'
                      go_simp
                      with_reducible rfl
                    rotate_left
                    · simp only [Act.put, List.setIfInBounds_toArray, List.set_cons_zero, List.set_cons_succ, i64_w, i32_w]
                      rfl
                    refine done_ (done_of HT_.out (by kernel_rfl)) ?_
                    try go_wp2
                    go_ret
                    exact ⟨by first | rfl | (simp [errW_none, errW_some] <;> rfl) | (simp [*, errW_none, errW_some] <;> rfl), by repeat (first | (with_reducible first | exact HB.out | apply below_alloc | apply pw_below_drewN | apply below_drew1 | refine below_set ?_ GE134.out | refine below_set ?_ GE135.out) | exact HB.out)⟩
                · rw [if_neg c24] at H
                  exact absurd H (by simp)
              · rw [if_neg c23] at H
                exact absurd H (by simp)
            · rw [if_neg c22] at H
              have c22b0 : decide (x5_2 < (l0_3.length : Int)) = false := decide_eq_false c22
              clear c22
              obtain rfl := Option.some.inj H
              have hnb35 := NB134_135.out
              have hnc35 := NB135_134.out
              have hcz36_0 : wr.cell? ⟨gb134, 0, none⟩ = some (.int .i64 a0_0) := (blk_cell BK134.out 0).trans rfl
              have hcz36_1 : wr.cell? ⟨gb134, 1, none⟩ = some (.int .i64 a0_1) := (blk_cell BK134.out 1).trans rfl
              have hcz36_2 : wr.cell? ⟨gb134, 2, none⟩ = some (.int .i64 a0_2) := (blk_cell BK134.out 2).trans rfl
              have hcz36_3 : wr.cell? ⟨gb134, 3, none⟩ = some (.slice A0_3 l0_3.length c0_3) := (blk_cell BK134.out 3).trans rfl
              have hfz36_0 := blk_frozen BK134.out 0
              have hfz36_1 := blk_frozen BK134.out 1
              have hfz36_2 := blk_frozen BK134.out 2
              have hfz36_3 := blk_frozen BK134.out 3
              go_wp2
              go_ret
              exact ⟨by first | rfl | (simp [errW_none, errW_some] <;> rfl) | (simp [*, errW_none, errW_some] <;> rfl), by repeat (first | (with_reducible first | exact HB.out | apply below_alloc | apply pw_below_drewN | apply below_drew1 | refine below_set ?_ GE134.out | refine below_set ?_ GE135.out) | exact HB.out)⟩
end Go.Proofs.Ytgiefblcckikeaa.G
end

section

/- Transactions and entries that are the same: in plain Lean. -/
set_option maxRecDepth 100000
set_option linter.unusedVariables false
set_option linter.unusedSimpArgs false
namespace Go.Proofs.Ytgiefblcckikeaa.M
open Go.RowKit Go.Proofs.YtgiefblcckikeaaW.PrintWords Go.Proofs.Ytgiefblcckikeaa.G
abbrev KeyD := G.S93
abbrev TxD := G.S36
theorem keyD_ext {a b : KeyD} (h : a.f0 = b.f0) (h1 : a.f1 = b.f1) : a = b := by cases a; cases b; simp_all
instance : DecidableEq KeyD := fun a b => if h : a.f0 = b.f0 ∧ a.f1 = b.f1 then .isTrue (keyD_ext h.1 h.2) else .isFalse (fun e => h (by rw [e]; exact ⟨rfl, rfl⟩))
theorem drop_cons {α : Type} {a : List α} {i : Nat} {x : α} (h : a[i]? = some x) : a.drop i = x :: a.drop (i + 1) := by
  have hl := (List.getElem?_eq_some_iff.1 h).1
  rw [List.drop_eq_getElem_cons hl]
  congr 1
  exact (List.getElem?_eq_some_iff.1 h).2
def eqS (a b : List Int) : Bool := (strOfNums a).toList == (strOfNums b).toList
def eqTx (a b : TxD) : Bool := a.f0 == b.f0 && (a.f1 == b.f1 && (eqS a.f2 b.f2 && (decide (a.f3 = b.f3) && (decide (a.f4 = b.f4) && decide (a.f5 = b.f5)))))
def eqTs : List TxD → List TxD → Bool
  | a :: r, b :: s => eqTx a b && eqTs r s
  | [], [] => true
  | _, _ => false
def eqEn (k f n : Int) (l : List TxD) (k' f' n' : Int) (l' : List TxD) : Bool := k == k' && (f == f' && (n == n' && eqTs l l'))
theorem eqTs_len : ∀ {a b : List TxD}, a.length ≠ b.length → eqTs a b = false
  | a :: r, b :: s, h => by
    unfold eqTs
    rw [eqTs_len (by simpa using h), Bool.and_false]
  | [], [], h => absurd rfl h
  | a :: r, [], _ => rfl
  | [], b :: s, _ => rfl
theorem eq_pi : ∀ (k : Nat) (a b : List Int) (i : Nat), a.length < i + k → i ≤ a.length → a.length = b.length → a.length ≤ 9223372036854775807 → G.slices_Equal_int64_int64.l0 k a b (a.length : Int) (i : Int) = some (decide (a.drop i = b.drop i))
  | 0, a, b, i, hk, hi, _, _ => by omega
  | k + 1, a, b, i, hk, hi, hl, hm => by
    simp only [G.slices_Equal_int64_int64.l0]
    by_cases hlt : i < a.length
    · obtain ⟨x, hx⟩ : ∃ x, a[i]? = some x := ⟨_, List.getElem?_eq_getElem hlt⟩
      obtain ⟨y, hy⟩ : ∃ y, b[i]? = some y := ⟨_, List.getElem?_eq_getElem (by omega)⟩
      have r1 : rd a (i : Int) = x := by unfold rd; rw [Int.toNat_natCast, List.getD_eq_getElem?_getD, hx]; rfl
      have r2 : rd b (i : Int) = y := by unfold rd; rw [Int.toNat_natCast, List.getD_eq_getElem?_getD, hy]; rfl
      have d1 := drop_cons hx
      have d2 := drop_cons hy
      have hw : wrap64 ((i : Int) + 1) = ((i + 1 : Nat) : Int) := by unfold wrap64; omega
      rw [if_pos (by omega : (i : Int) < (a.length : Int)), if_pos (by omega : (0 : Int) ≤ (i : Int)), if_pos (by omega : (i : Int) < (a.length : Int)), if_pos (by omega : (i : Int) < (b.length : Int))]
      rw [r1, r2]
      by_cases e : x = y
      · rw [if_pos e, hw, eq_pi k a b (i + 1) (by omega) (by omega) hl hm]
        congr 1
        rw [d1, d2, e]
        simp
      · rw [if_neg e, d1, d2]
        simp [e]
    · rw [if_neg (by omega), List.drop_of_length_le (by omega), List.drop_of_length_le (by omega)]
      simp
theorem eq_pi_f (k : Nat) (a b : List Int) (hk : a.length < k) (hm : a.length ≤ 9223372036854775807) : G.slices_Equal_int64_int64.f k a b = some (decide (a = b)) := by
  unfold G.slices_Equal_int64_int64.f
  by_cases h : a.length = b.length
  · rw [if_pos (by omega)]
    have := eq_pi k a b 0 (by omega) (by omega) h hm
    simpa using this
  · rw [if_neg (by omega)]
    congr 1
    exact (decide_eq_false (fun e => h (by rw [e]))).symm
theorem eq_ri : ∀ (k : Nat) (a b : List Int) (i : Nat), a.length < i + k → i ≤ a.length → a.length = b.length → a.length ≤ 9223372036854775807 → G.trivetref04_SameInts.l0 k a b (i : Int) = some (decide (a.drop i = b.drop i))
  | 0, a, b, i, hk, hi, _, _ => by omega
  | k + 1, a, b, i, hk, hi, hl, hm => by
    simp only [G.trivetref04_SameInts.l0]
    by_cases hlt : i < a.length
    · obtain ⟨x, hx⟩ : ∃ x, a[i]? = some x := ⟨_, List.getElem?_eq_getElem hlt⟩
      obtain ⟨y, hy⟩ : ∃ y, b[i]? = some y := ⟨_, List.getElem?_eq_getElem (by omega)⟩
      have r1 : rd a (i : Int) = x := by unfold rd; rw [Int.toNat_natCast, List.getD_eq_getElem?_getD, hx]; rfl
      have r2 : rd b (i : Int) = y := by unfold rd; rw [Int.toNat_natCast, List.getD_eq_getElem?_getD, hy]; rfl
      have d1 := drop_cons hx
      have d2 := drop_cons hy
      have hw : wrap64 ((i : Int) + 1) = ((i + 1 : Nat) : Int) := by unfold wrap64; omega
      rw [if_pos (by omega : (i : Int) < (a.length : Int)), if_pos (by omega : (0 : Int) ≤ (i : Int)), if_pos (by omega : (i : Int) < (b.length : Int))]
      rw [r1, r2]
      by_cases e : x = y
      · rw [if_pos e, hw, eq_ri k a b (i + 1) (by omega) (by omega) hl hm]
        congr 1
        rw [d1, d2, e]
        simp
      · rw [if_neg e, d1, d2]
        simp [e]
    · rw [if_neg (by omega), List.drop_of_length_le (by omega), List.drop_of_length_le (by omega)]
      simp
theorem eq_ri_f (k : Nat) (a b : List Int) (hk : a.length < k) (hm : a.length ≤ 9223372036854775807) : G.trivetref04_SameInts.f k a b = some (decide (a = b)) := by
  unfold G.trivetref04_SameInts.f
  by_cases h : a.length = b.length
  · rw [if_pos (by omega)]
    have := eq_ri k a b 0 (by omega) (by omega) h hm
    simpa using this
  · rw [if_neg (by omega)]
    congr 1
    exact (decide_eq_false (fun e => h (by rw [e]))).symm
theorem eq_pk : ∀ (k : Nat) (a b : List KeyD) (i : Nat), a.length < i + k → i ≤ a.length → a.length = b.length → a.length ≤ 9223372036854775807 → G.api_Key_54.l0 k a b (a.length : Int) (i : Int) = some (decide (a.drop i = b.drop i))
  | 0, a, b, i, hk, hi, _, _ => by omega
  | k + 1, a, b, i, hk, hi, hl, hm => by
    simp only [G.api_Key_54.l0]
    by_cases hlt : i < a.length
    · obtain ⟨x, hx⟩ : ∃ x, a[i]? = some x := ⟨_, List.getElem?_eq_getElem hlt⟩
      obtain ⟨y, hy⟩ : ∃ y, b[i]? = some y := ⟨_, List.getElem?_eq_getElem (by omega)⟩
      have r1 : G.rd_T93 a (i : Int) = x := by unfold G.rd_T93; rw [Int.toNat_natCast, List.getD_eq_getElem?_getD, hx]; rfl
      have r2 : G.rd_T93 b (i : Int) = y := by unfold G.rd_T93; rw [Int.toNat_natCast, List.getD_eq_getElem?_getD, hy]; rfl
      have d1 := drop_cons hx
      have d2 := drop_cons hy
      have hw : wrap64 ((i : Int) + 1) = ((i + 1 : Nat) : Int) := by unfold wrap64; omega
      rw [if_pos (by omega : (i : Int) < (a.length : Int)), if_pos (by omega : (0 : Int) ≤ (i : Int)), if_pos (by omega : (i : Int) < (a.length : Int)), if_pos (by omega : (i : Int) < (b.length : Int))]
      by_cases e : x = y
      · have e1 : (!(((G.rd_T93 a (i : Int)).f0) == ((G.rd_T93 b (i : Int)).f0)) || (!(((G.rd_T93 a (i : Int)).f1) == ((G.rd_T93 b (i : Int)).f1)))) = false := by rw [r1, r2, e]; simp
        rw [e1]
        simp only [Bool.false_eq_true, if_false]
        rw [hw, eq_pk k a b (i + 1) (by omega) (by omega) hl hm]
        congr 1
        rw [d1, d2, e]
        simp
      · have e1 : (!(((G.rd_T93 a (i : Int)).f0) == ((G.rd_T93 b (i : Int)).f0)) || (!(((G.rd_T93 a (i : Int)).f1) == ((G.rd_T93 b (i : Int)).f1)))) = true := by
          rw [r1, r2]
          rw [← Bool.not_eq_false]
          intro h
          simp only [Bool.or_eq_false_iff, Bool.not_eq_false', beq_iff_eq] at h
          exact e (keyD_ext h.1 h.2)
        rw [if_pos e1, d1, d2]
        simp [e]
    · rw [if_neg (by omega), List.drop_of_length_le (by omega), List.drop_of_length_le (by omega)]
      simp
theorem eq_pk_f (k : Nat) (a b : List KeyD) (hk : a.length < k) (hm : a.length ≤ 9223372036854775807) : G.api_Key_54.f k a b = some (decide (a = b)) := by
  unfold G.api_Key_54.f
  by_cases h : a.length = b.length
  · rw [if_pos (by omega)]
    have := eq_pk k a b 0 (by omega) (by omega) h hm
    simpa using this
  · rw [if_neg (by omega)]
    congr 1
    exact (decide_eq_false (fun e => h (by rw [e]))).symm
theorem eq_rk : ∀ (k : Nat) (a b : List KeyD) (i : Nat), a.length < i + k → i ≤ a.length → a.length = b.length → a.length ≤ 9223372036854775807 → G.trivetref04_SameKeys.l0 k a b (i : Int) = some (decide (a.drop i = b.drop i))
  | 0, a, b, i, hk, hi, _, _ => by omega
  | k + 1, a, b, i, hk, hi, hl, hm => by
    simp only [G.trivetref04_SameKeys.l0]
    by_cases hlt : i < a.length
    · obtain ⟨x, hx⟩ : ∃ x, a[i]? = some x := ⟨_, List.getElem?_eq_getElem hlt⟩
      obtain ⟨y, hy⟩ : ∃ y, b[i]? = some y := ⟨_, List.getElem?_eq_getElem (by omega)⟩
      have r1 : G.rd_T93 a (i : Int) = x := by unfold G.rd_T93; rw [Int.toNat_natCast, List.getD_eq_getElem?_getD, hx]; rfl
      have r2 : G.rd_T93 b (i : Int) = y := by unfold G.rd_T93; rw [Int.toNat_natCast, List.getD_eq_getElem?_getD, hy]; rfl
      have d1 := drop_cons hx
      have d2 := drop_cons hy
      have hw : wrap64 ((i : Int) + 1) = ((i + 1 : Nat) : Int) := by unfold wrap64; omega
      rw [if_pos (by omega : (i : Int) < (a.length : Int)), if_pos (by omega : (0 : Int) ≤ (i : Int)), if_pos (by omega : (i : Int) < (b.length : Int))]
      by_cases e : x = y
      · have e1 : (!(((G.rd_T93 a (i : Int)).f0) == ((G.rd_T93 b (i : Int)).f0)) || (!(((G.rd_T93 a (i : Int)).f1) == ((G.rd_T93 b (i : Int)).f1)))) = false := by rw [r1, r2, e]; simp
        rw [e1]
        simp only [Bool.false_eq_true, if_false]
        rw [hw, eq_rk k a b (i + 1) (by omega) (by omega) hl hm]
        congr 1
        rw [d1, d2, e]
        simp
      · have e1 : (!(((G.rd_T93 a (i : Int)).f0) == ((G.rd_T93 b (i : Int)).f0)) || (!(((G.rd_T93 a (i : Int)).f1) == ((G.rd_T93 b (i : Int)).f1)))) = true := by
          rw [r1, r2]
          rw [← Bool.not_eq_false]
          intro h
          simp only [Bool.or_eq_false_iff, Bool.not_eq_false', beq_iff_eq] at h
          exact e (keyD_ext h.1 h.2)
        rw [if_pos e1, d1, d2]
        simp [e]
    · rw [if_neg (by omega), List.drop_of_length_le (by omega), List.drop_of_length_le (by omega)]
      simp
theorem eq_rk_f (k : Nat) (a b : List KeyD) (hk : a.length < k) (hm : a.length ≤ 9223372036854775807) : G.trivetref04_SameKeys.f k a b = some (decide (a = b)) := by
  unfold G.trivetref04_SameKeys.f
  by_cases h : a.length = b.length
  · rw [if_pos (by omega)]
    have := eq_rk k a b 0 (by omega) (by omega) h hm
    simpa using this
  · rw [if_neg (by omega)]
    congr 1
    exact (decide_eq_false (fun e => h (by rw [e]))).symm
def TxLe (t : TxD) (n : Nat) : Prop := t.f2.length ≤ n ∧ t.f3.length ≤ n ∧ t.f4.length ≤ n ∧ t.f5.length ≤ n
theorem sameTxn_p (k : Nat) (a b : TxD) (h : TxLe a 9223372036854775807) (hk : a.f3.length < k ∧ a.f4.length < k ∧ a.f5.length < k) : G.record_SameTxn.f k a.f0 a.f1 a.f2 a.f3 a.f4 a.f5 b.f0 b.f1 b.f2 b.f3 b.f4 b.f5 = some (eqTx a b) := by
  unfold G.record_SameTxn.f eqTx G.bytes_Equal.f
  rw [eq_pi_f k a.f3 b.f3 hk.1 h.2.1, eq_pk_f k a.f4 b.f4 hk.2.1 h.2.2.1, eq_pk_f k a.f5 b.f5 hk.2.2 h.2.2.2]
  simp only [Option.bind_some]
  by_cases h0 : a.f0 = b.f0
  · by_cases h1 : a.f1 = b.f1
    · rw [if_pos h0, if_pos h1]
      cases h2 : eqS a.f2 b.f2 <;> cases h3 : decide (a.f3 = b.f3) <;> cases h4 : decide (a.f4 = b.f4) <;> unfold eqS at h2 <;> simp [h0, h1, h2]
    · rw [if_pos h0, if_neg h1]; simp [h1]
  · rw [if_neg h0]; simp [h0]
theorem sameTxn_r (k : Nat) (a b : TxD) (h : TxLe a 9223372036854775807) (hk : a.f3.length < k ∧ a.f4.length < k ∧ a.f5.length < k) : G.trivetref04_SameTxn.f k a.f0 a.f1 a.f2 a.f3 a.f4 a.f5 b.f0 b.f1 b.f2 b.f3 b.f4 b.f5 = some (eqTx a b) := by
  unfold G.trivetref04_SameTxn.f eqTx
  rw [eq_ri_f k a.f3 b.f3 hk.1 h.2.1, eq_rk_f k a.f4 b.f4 hk.2.1 h.2.2.1, eq_rk_f k a.f5 b.f5 hk.2.2 h.2.2.2]
  simp only [Option.bind_some]
  by_cases h0 : a.f0 = b.f0
  · by_cases h1 : a.f1 = b.f1
    · rw [if_pos h0, if_pos h1]
      by_cases h2 : (strOfNums a.f2).toList = (strOfNums b.f2).toList
      · rw [if_pos h2]
        cases h3 : decide (a.f3 = b.f3) <;> cases h4 : decide (a.f4 = b.f4) <;> simp [h0, h1, h2, eqS]
      · rw [if_neg h2]; simp [h2, eqS]
    · rw [if_pos h0, if_neg h1]; simp [h1]
  · rw [if_neg h0]; simp [h0]
end Go.Proofs.Ytgiefblcckikeaa.M
end

section

/- slices.IsSortedFunc of keys. -/
set_option maxRecDepth 100000
set_option linter.unusedVariables false
set_option linter.unusedSimpArgs false
attribute [local irreducible] Go.wpStill
namespace Go.Proofs.Ytgiefblcckikeaa.M
open Go.RowKit Go.Proofs.YtgiefblcckikeaaW.PrintWords
def kv (x : KeyD) : Int × Int := (x.f0, x.f1)
theorem keyd_get {W : World} {A : Option Addr} {n : Nat} {l : List KeyD} (h : Kd.C G.k93 W A n l) {k : Nat} {x : KeyD} (hk : l[k]? = some x) :
    ∃ ad, A = some ad ∧ W.cell? (ad.add (k * 2)) = some (.int .i32 x.f0) ∧ W.cell? ⟨(ad.add (k * 2)).block, (ad.add (k * 2)).off + 1, none⟩ = some (.int .i64 x.f1) := by
  have hlt : k < n := by
    have := (List.getElem?_eq_some_iff.1 hk).1
    have := h.1
    omega
  obtain ⟨ad, c, rfl, hcl, hK, hcc⟩ := Kd.C_get h G.z93 (k : Int) (by omega) (by omega)
  have e : l.getD (k : Int).toNat G.z93 = x := by rw [Int.toNat_natCast, List.getD_eq_getElem?_getD, hk]; rfl
  rw [e] at hK
  rw [Int.toNat_natCast] at hcc
  have hc := G.k93_open hK
  have hs : G.k93.sz = 2 := rfl
  rw [hs] at hcc
  refine ⟨ad, rfl, by simpa using hcc 0 _ (by rw [hc]; rfl), ?_⟩
  rw [← add_field ad (k * 2) 1 (by omega)]; exact hcc 1 _ (by rw [hc]; rfl)
def ndFrom (l : List KeyD) (i : Nat) : Prop := ∀ (j : Nat) (x y : KeyD), i ≤ j → l[j]? = some x → l[j + 1]? = some y → kLt (kv y) (kv x) = false
def SoI (l : List KeyD) (w : World) (i : Value) (wr : World) : Prop := ∃ k : Int, i = .int .i64 k ∧ k < l.length ∧ -1 ≤ k ∧ ndFrom l k.toNat ∧ Below w.heap.size w wr
def SoV (l : List KeyD) (w : World) (e : Ending) (w' : World) : Prop := ∃ b : Bool, e = .returned (.bool b) ∧ (b = true ↔ ndFrom l 0) ∧ Below w.heap.size w w'
set_option maxHeartbeats 1000000 in
theorem sorted_is (A : Option Addr) (c : Nat) (l : List KeyD) (w : World) (hr : Kd.C G.k93 w A l.length l) :
    Calls Try.prog 92 #[.slice A l.length c, .func (.func 93) #[] #[]] w fun e w' => SoV l w e w' := by
  have hn : l.length ≤ 9223372036854775807 := hr.2.1
  have HR := Lib.hid hr
  clear hr
  go_enter Try.func92, Try.ntmps92
  go_wp2_with fail
  go_loopw [5] (fun i wr => SoI l w i wr) (fun i _ => (intOf i).toNat)
  case atStart =>
    refine ⟨(l.length : Int) - 1, rfl, by omega, by omega, fun j x y hj hx hy => ?_, Below.refl _ _⟩
    have := (List.getElem?_eq_some_iff.1 hy).1
    omega
  case round =>
    obtain ⟨k, rfl, hk, hk0, hnd, hb⟩ := hrel
    have HND := Lib.hid hnd; have HBr := Lib.hid hb
    clear hnd hb
    by_cases hlt : 0 < k
    · obtain ⟨m, rfl⟩ : ∃ m : Nat, k = (m : Int) + 1 := ⟨(k - 1).toNat, by omega⟩
      obtain ⟨y, hy⟩ : ∃ y, l[m + 1]? = some y := ⟨_, List.getElem?_eq_getElem (by omega)⟩
      obtain ⟨x, hx⟩ : ∃ x, l[m]? = some x := ⟨_, List.getElem?_eq_getElem (by omega)⟩
      have hC := Kd.C_below HR.out HBr.out
      obtain ⟨ad, rfl, hy0, hy1⟩ := keyd_get hC hy
      obtain ⟨ad', e', hx0, hx1⟩ := keyd_get hC hx
      cases e'
      have HX := Lib.hid hx; have HY := Lib.hid hy
      have e1 : ((m : Int) + 1).toNat = m + 1 := by omega
      have e2 : IntKind.i64.wrap (m : Int) = (m : Int) := by rw [IntKind.wrap_i64]; omega
      have e3 : ((m : Int)).toNat = m := by omega
      have g0 : (0 : Int) ≤ (m : Int) + 1 := by omega
      have g1 : (m : Int) + 1 < (l.length : Int) := by omega
      have g2 : (m : Int) < (l.length : Int) := by omega
      have g3 : (0 : Int) ≤ (m : Int) := by omega
      clear hC hx hy
      go_wp2_with fail
      refine wp_region_still_tail 10 (by kernel_rfl) (by kernel_rfl) ?_
      simp only [List.take_succ_cons, List.take_zero, List.drop_succ_cons, List.drop_zero]
      iterate 10 still_step
      refine wpStill_nil ?_
      change wpList _ _ _ _ _ wr.drew
      go_wp2_with fail
      refine (compare_is (kv y) (kv x) _).mono ?_
      rintro e w' ⟨rfl, hb⟩
      have HB2 := Lib.hid (show Below w.heap.size w w' from (HBr.out.drew).trans (hb.mono (by simpa using HBr.out.size)))
      have HNG := Lib.hid (cmpK_neg (kv y) (kv x))
      obtain ⟨r, hr⟩ : ∃ r, cmpK (kv y) (kv x) = r := ⟨_, rfl⟩
      rw [hr] at HNG ⊢
      clear hr hb
      by_cases hr0 : r < 0
      · have hrb : decide (r < 0) = true := decide_eq_true hr0
        have HN := Lib.hid (show ¬ ndFrom l 0 from fun h => by
          have := h m x y (Nat.zero_le _) HX.out HY.out
          rw [HNG.out.1 hr0] at this
          cases this)
        clear hr0
        go_wp2_with fail
        go_ret
        exact ⟨false, rfl, ⟨(fun h => by cases h), fun h => absurd h HN.out⟩, HB2.out⟩
      · have hrb : decide (r < 0) = false := decide_eq_false hr0
        have HN := Lib.hid (show ndFrom l m from fun j a b hj ha hb => by
          rcases Nat.lt_or_ge m j with h | h
          · exact HND.out j a b (by omega) ha hb
          · obtain rfl : j = m := by omega
            rw [HX.out] at ha
            rw [HY.out] at hb
            cases ha
            cases hb
            rw [← Bool.not_eq_true]
            exact fun e => hr0 (HNG.out.2 e))
        clear hr0
        go_wp2_with fail
        go_roundw
        case rel => exact ⟨m, rfl, by omega, by omega, HN.out, HB2.out⟩
        case measure => simp [intOf]
    · have hlt' : decide (0 < k) = false := decide_eq_false hlt
      have HN := Lib.hid (show ndFrom l 0 by have := HND.out; rwa [show k.toNat = 0 by omega] at this)
      clear hlt
      go_wp2_with fail
      go_ret
      exact ⟨true, rfl, ⟨fun _ => HN.out, fun _ => rfl⟩, HBr.out⟩
end Go.Proofs.Ytgiefblcckikeaa.M
end

section

/- slices.Clone of numbers and of keys. -/
set_option maxRecDepth 100000
set_option linter.unusedVariables false
set_option linter.unusedSimpArgs false
namespace Go.Proofs.Ytgiefblcckikeaa.M
open Go.RowKit Go.Proofs.YtgiefblcckikeaaW.PrintWords Go.Proofs.YtgiefblcckikeaaW.PrintLast Go.Proofs.YtgiefblcckikeaaW.PrintMore
theorem C_none' {α : Type} {d : Kd α} {w : World} {n : Nat} {xs : List α} (h : Kd.C d w none n xs) : n = 0 ∧ xs = [] := by
  have hn : n = 0 := by
    rcases Nat.eq_zero_or_pos n with h0 | h0
    · exact h0
    · obtain ⟨ad, e, _⟩ := h.2.2 h0
      cases e
  exact ⟨hn, List.eq_nil_of_length_eq_zero (h.1.trans hn)⟩
theorem R_empty {α : Type} (d : Kd α) (e : Nat) (w : World) : Kd.R d e (w.alloc (.cells #[] e)) w.heap.size (fun _ => True) (.slice (some ⟨w.heap.size, 0, none⟩) 0 0) [] := by
  refine ⟨fun _ _ => trivial, [], ?_, ?_⟩
  · exact ⟨by simp, .inr ⟨w.heap.size, 0, #[], rfl, Nat.le_refl _, heap_alloc_new w _, Nat.le_refl _, Nat.zero_le _, by simp, by simp⟩⟩
  · exact Reps.none _ _
theorem infoI64 : (Try.prog.info? 2).map (fun i => (i.zero, i.size, i.bytes)) = some (some (.int .i64 0), 1, 8) := by kernel_rfl
theorem infoKey : (Try.prog.info? 93).map (fun i => (i.zero, i.size, i.bytes)) = some (some (.agg #[.int .i32 0, .int .i64 0]), 2, 16) := by kernel_rfl
theorem clone_ints (A : Option Addr) (c : Nat) (l : List Int) (w : World) (hr : Kd.C (Kd.int .i64) w A l.length l) (hc : l.length ≤ c) (hl : l.length < 17592186044416) :
    Calls Try.prog 55 #[.slice A l.length c] w fun e w' => ∃ v0_ : Value, e = .returned v0_ ∧ Kd.R (Kd.int .i64) 2 w' w.heap.size (fun _ => True) v0_ l ∧ Below w.heap.size w w' := by
  have qT : ∀ (w : World) (a : Option Addr) (n c n' c' : Nat), (binOp .eql 33 (.slice a n c) (.slice none n' c')).run Try.prog w = .ok (.bool a.isNone) w := fun w a n c n' c' => Lib.run_eql_slice_nil w _ _ a n c n' c' Try.underlying33
  have HR := Aside0.mk hr
  have HL := Aside0.mk hl
  clear hr hl
  rcases A with _ | ad
  · obtain ⟨_, rfl⟩ := C_none' HR.out
    go_enter Try.func55, Try.ntmps55
    go_wp2
    go_ret
    exact ⟨_, rfl, Kd.R_nil _ _ _ _ _, Below.refl _ _⟩
  · go_enter Try.func55, Try.ntmps55
    have HE := Aside0.mk (R_empty (Kd.int .i64) 2 w)
    go_wp2_with ((with_reducible refine gate_builtin (b := .append) (xs := #[.tmp 5, .tmp 6]) rfl ?_); at_builtin; refine Kd.R_append_rows (Kd.int .i64) (w0 := w) w.heap.size rfl (.tmp 5) (.tmp 6) 33 2 (.int .i64 0) 8 rfl Try.underlying33 infoI64 rfl (by decide) (by omega) _ ([] : List Int) l _ _ _ (fun _ => True) (fun _ => False) rfl rfl HE.out (Kd.C_alloc HR.out _) (fun _ _ h => h) (fun _ h => h.elim) (fun _ _ => trivial) ((Below.refl _ _).alloc (Nat.le_refl _) _) (by simp) (by have := HL.out; simp; omega) ?_; intro v1 w1 ho hb _ _)
    go_ret
    exact ⟨_, rfl, ho, hb⟩
theorem clone_keys (A : Option Addr) (c : Nat) (l : List (G.S93)) (w : World) (hr : Kd.C G.k93 w A l.length l) (hc : l.length ≤ c) (hl : l.length < 8796093022208) :
    Calls Try.prog 56 #[.slice A l.length c] w fun e w' => ∃ v0_ : Value, e = .returned v0_ ∧ Kd.R G.k93 93 w' w.heap.size (fun _ => True) v0_ l ∧ Below w.heap.size w w' := by
  have qT : ∀ (w : World) (a : Option Addr) (n c n' c' : Nat), (binOp .eql 34 (.slice a n c) (.slice none n' c')).run Try.prog w = .ok (.bool a.isNone) w := fun w a n c n' c' => Lib.run_eql_slice_nil w _ _ a n c n' c' Try.underlying34
  have HR := Aside0.mk hr
  have HL := Aside0.mk hl
  clear hr hl
  rcases A with _ | ad
  · obtain ⟨_, rfl⟩ := C_none' HR.out
    go_enter Try.func56, Try.ntmps56
    go_wp2
    go_ret
    exact ⟨_, rfl, Kd.R_nil _ _ _ _ _, Below.refl _ _⟩
  · go_enter Try.func56, Try.ntmps56
    have HE := Aside0.mk (R_empty G.k93 93 w)
    go_wp2_with ((with_reducible refine gate_builtin (b := .append) (xs := #[.tmp 5, .tmp 6]) rfl ?_); at_builtin; refine Kd.R_append_rows G.k93 (w0 := w) w.heap.size rfl (.tmp 5) (.tmp 6) 34 93 (.agg #[.int .i32 0, .int .i64 0]) 16 rfl Try.underlying34 infoKey rfl (by decide) (by omega) _ ([] : List (G.S93)) l _ _ _ (fun _ => True) (fun _ => False) rfl rfl HE.out (Kd.C_alloc HR.out _) (fun x cs h => (by rw [G.k93_open h]; exact G.k93_mkM _ _ _ _)) (fun _ h => h.elim) (fun _ _ => trivial) ((Below.refl _ _).alloc (Nat.le_refl _) _) (by simp) (by have := HL.out; simp; omega) ?_; intro v1 w1 ho hb _ _)
    go_ret
    exact ⟨_, rfl, ho, hb⟩
end Go.Proofs.Ytgiefblcckikeaa.M
namespace Go.Proofs.Ytgiefblcckikeaa.G
open Go.RowKit Go.Proofs.YtgiefblcckikeaaW.PrintWords Go.Proofs.Ytgiefblcckikeaa.M
def slices_Clone_int64_int64.f (l0 : List Int) : Option (List Int) := if l0.length < 17592186044416 then some l0 else none
theorem slices_Clone_int64_int64.calls (A0 : Option Addr) (c0 : Nat) (l0 : List Int) (r : List Int) (w : World) (hr0 : Kd.C (Kd.int .i64) w A0 l0.length l0) (hc0 : l0.length ≤ c0) (h : slices_Clone_int64_int64.f l0 = some r) :
    Calls Try.prog 55 #[.slice A0 l0.length c0] w fun e w' => ∃ v0_ : Value, e = .returned v0_ ∧ Kd.R (Kd.int .i64) 2 w' w.heap.size (fun _ => True) v0_ r ∧ Below w.heap.size w w' := by
  unfold slices_Clone_int64_int64.f at h
  split at h
  · obtain rfl := Option.some.inj h
    exact clone_ints A0 c0 l0 w hr0 hc0 (by assumption)
  · cases h
def api_Key_56.f (l0 : List S93) : Option (List S93) := if l0.length < 8796093022208 then some l0 else none
theorem api_Key_56.calls (A0 : Option Addr) (c0 : Nat) (l0 : List S93) (r : List S93) (w : World) (hr0 : Kd.C k93 w A0 l0.length l0) (hc0 : l0.length ≤ c0) (h : api_Key_56.f l0 = some r) :
    Calls Try.prog 56 #[.slice A0 l0.length c0] w fun e w' => ∃ v0_ : Value, e = .returned v0_ ∧ Kd.R k93 93 w' w.heap.size (fun _ => True) v0_ r ∧ Below w.heap.size w w' := by
  unfold api_Key_56.f at h
  split at h
  · obtain rfl := Option.some.inj h
    exact clone_keys A0 c0 l0 w hr0 hc0 (by assumption)
  · cases h
end Go.Proofs.Ytgiefblcckikeaa.G
end

section

/- What has turned lies in the blocks of S, or is new. -/
set_option linter.unusedVariables false
set_option linter.unusedSimpArgs false
namespace Go.Proofs.Ytgiefblcckikeaa.M
open Go.RowKit Go.Proofs.YtgiefblcckikeaaW.PrintWords
structure KeepS (S : Nat → Prop) (w w' : World) : Prop where
  os : w'.os = w.os
  tape : w'.tape = w.tape
  output : w'.output = w.output
  size : w.heap.size ≤ w'.heap.size
  block : ∀ i, i < w.heap.size → ¬ S i → w'.heap[i]? = w.heap[i]?
namespace KeepS
variable {S S' : Nat → Prop} {x y z : World}
theorem refl (S : Nat → Prop) (w : World) : KeepS S w w := ⟨rfl, rfl, rfl, Nat.le_refl _, fun _ _ _ => rfl⟩
theorem trans (h : KeepS S x y) (k : KeepS S y z) : KeepS S x z :=
  ⟨k.os.trans h.os, k.tape.trans h.tape, k.output.trans h.output, Nat.le_trans h.size k.size, fun i hi hs => (k.block i (Nat.lt_of_lt_of_le hi h.size) hs).trans (h.block i hi hs)⟩
theorem mono (h : KeepS S x y) (hs : ∀ i, S i → S' i) : KeepS S' x y := ⟨h.os, h.tape, h.output, h.size, fun i hi hn => h.block i hi (fun e => hn (hs i e))⟩
theorem of_below (S : Nat → Prop) (h : Below x.heap.size x y) : KeepS S x y := ⟨h.os, h.tape, h.output, h.size, fun i hi _ => h.block i hi⟩
theorem of_grown {row : Option Nat} (h : x.grownBy y row) (hs : ∀ i, row = some i → S i) : KeepS S x y := ⟨h.os, h.tape, h.output, h.size, fun i hi hn => h.block i hi (fun e => hn (hs i e.symm))⟩
theorem then_below (h : KeepS S x y) (k : Below y.heap.size y z) : KeepS S x z := h.trans (of_below S k)
theorem then_base (h : KeepS S x y) (k : Below x.heap.size y z) : KeepS S x z :=
  ⟨k.os.trans h.os, k.tape.trans h.tape, k.output.trans h.output, Nat.le_trans h.size k.size, fun i hi hs => (k.block i hi).trans (h.block i hi hs)⟩
theorem set (h : KeepS S x y) {p : Addr} (hp : S p.block ∨ x.heap.size ≤ p.block) (v : Value) : KeepS S x (y.setCell p v) :=
  ⟨h.os, h.tape, h.output, by simpa [World.setCell] using h.size, fun i hi hn => (Below.heap_setCell y p v i (by rcases hp with hp | hp; exact fun e => hn (e ▸ hp); exact fun e => by omega)).trans (h.block i hi hn)⟩
theorem alloc (h : KeepS S x y) (o : Obj) : KeepS S x (y.alloc o) := h.then_below ((Below.refl _ y).alloc (Nat.le_refl _) o)
theorem drew (h : KeepS S x y) : KeepS S x y.drew := ⟨h.os, h.tape, h.output, h.size, h.block⟩
theorem drewN (h : KeepS S x y) (n : Nat) : KeepS S x (y.drewN n) := ⟨h.os, h.tape, h.output, h.size, h.block⟩
theorem cell (h : KeepS S x y) {p : Addr} (hp : p.block < x.heap.size) (hs : ¬ S p.block) : y.cell? p = x.cell? p := World.cell?_of_block (h.block p.block hp hs)
theorem frozen (h : KeepS S x y) {p : Addr} (hp : p.block < x.heap.size) (hs : ¬ S p.block) : y.frozen? p = x.frozen? p := World.frozen?_of_block (h.block p.block hp hs)
theorem below (h : KeepS S x y) {B : Nat} (hB : B ≤ x.heap.size) (hs : ∀ i, S i → B ≤ i) : Below B x y :=
  ⟨h.os, h.tape, h.output, h.size, fun i hi => h.block i (Nat.lt_of_lt_of_le hi hB) (fun e => by have := hs i e; omega)⟩
end KeepS
end Go.Proofs.Ytgiefblcckikeaa.M
end

section

/- slices.Compact of keys in memory of their own; record.keys. -/
set_option maxRecDepth 100000
set_option linter.unusedVariables false
set_option linter.unusedSimpArgs false
attribute [local irreducible] Go.wpStill
namespace Go.Proofs.Ytgiefblcckikeaa.M
open Go.RowKit Go.Proofs.YtgiefblcckikeaaW.PrintWords
theorem eq_i32 (d : Nat) (a b : Int) (w : World) : (Op.equalIn (d + 1) 21 (.int .i32 a) (.int .i32 b)).run Try.prog w = .ok (a == b) w := by
  have hu := Try.underlying21
  simp [Op.equalIn, go_sem, hu]
theorem eq_i64 (d : Nat) (a b : Int) (w : World) : (Op.equalIn (d + 1) 2 (.int .i64 a) (.int .i64 b)).run Try.prog w = .ok (a == b) w := by
  have hu := Try.underlying2
  simp [Op.equalIn, go_sem, hu]
theorem eq_key (d : Nat) (a b : Int × Int) (w : World) : (Op.equalIn (d + 2) 93 (.agg #[.int .i32 a.1, .int .i64 a.2]) (.agg #[.int .i32 b.1, .int .i64 b.2])).run Try.prog w = .ok (a.1 == b.1 && a.2 == b.2) w := by
  refine eqA_of Try.underlying93 (by kernel_rfl) ?_
  simp only
  refine eqf_cons (by rfl) ?_ ?_ (eq_i32 _ _ _ _) (eqf_end (by rfl) ?_ ?_ (eq_i64 _ _ _ _) eqf_nil)
  all_goals simp only [part]
  all_goals go_simp
theorem eqk_self (k : KeyD) (w : World) : (Op.equalIn 10000 93 (.agg #[.int .i32 k.f0, .int .i64 k.f1]) (.agg #[.int .i32 k.f0, .int .i64 k.f1])).run Try.prog w = .ok true w := by
  have := eq_key 9998 (kv k) (kv k) w
  simpa [kv] using this
theorem eqk_ne {a b : KeyD} (h : a ≠ b) (w : World) : (Op.equalIn 10000 93 (.agg #[.int .i32 a.f0, .int .i64 a.f1]) (.agg #[.int .i32 b.f0, .int .i64 b.f1])).run Try.prog w = .ok false w := by
  have := eq_key 9998 (kv a) (kv b) w
  simp only [kv] at this
  rw [this]
  congr 1
  simp only [Bool.and_eq_false_iff, beq_eq_false_iff_ne]
  by_cases e : a.f0 = b.f0
  · refine .inr (fun e2 => h ?_)
    cases a; cases b
    simp only at e e2
    rw [e, e2]
  · exact .inl e
def KRow (W : World) (b : Nat) (l : List KeyD) : Prop := ∃ cells : Array Value, W.heap[b]? = some (.cells cells 93 (0, 0)) ∧ l.length * 2 ≤ cells.size ∧ ∀ (j : Nat) (x : KeyD), l[j]? = some x → cells[j * 2]? = some (.int .i32 x.f0) ∧ cells[j * 2 + 1]? = some (.int .i64 x.f1)
theorem KRow.move {W W' : World} {b : Nat} {l : List KeyD} (h : KRow W b l) (hb : W'.heap[b]? = W.heap[b]?) : KRow W' b l := by
  obtain ⟨c, h1, h2, h3⟩ := h
  exact ⟨c, hb.trans h1, h2, h3⟩
theorem KRow.lt {W : World} {b : Nat} {l : List KeyD} (h : KRow W b l) : b < W.heap.size := by
  obtain ⟨c, h1, _⟩ := h
  exact (Array.getElem?_eq_some_iff.1 h1).1
theorem KRow.get {W : World} {b : Nat} {l : List KeyD} (h : KRow W b l) {j : Nat} {x : KeyD} (hj : l[j]? = some x) {o : Nat} (ho : o = j * 2) : W.cell? ⟨b, o, none⟩ = some (.int .i32 x.f0) ∧ W.cell? ⟨b, o + 1, none⟩ = some (.int .i64 x.f1) ∧ W.frozen? ⟨b, o, none⟩ = false ∧ W.frozen? ⟨b, o + 1, none⟩ = false := by
  obtain ⟨c, h1, h2, h3⟩ := h
  obtain ⟨h4, h5⟩ := h3 j x hj
  subst ho
  simp [World.cell?, World.frozen?, h1, h4, h5]
theorem heap_same (W : World) (a : Addr) (v : Value) {cs : Array Value} {e : TypeId} {z : Nat × Nat} (h : W.heap[a.block]? = some (.cells cs e z)) (hs : a.spot = none) : (W.setCell a v).heap[a.block]? = some (.cells (cs.setIfInBounds a.off v) e z) := by
  simp only [World.setCell, Array.getElem?_modify, if_true, h, hs]
  rfl
theorem KRow.set {W : World} {b : Nat} {l : List KeyD} (h : KRow W b l) {k : Nat} (hk : k < l.length) (x : KeyD) : KRow ((W.setCell ⟨b, k * 2, none⟩ (.int .i32 x.f0)).setCell ⟨b, k * 2 + 1, none⟩ (.int .i64 x.f1)) b (l.set k x) := by
  obtain ⟨c, h1, h2, h3⟩ := h
  have e1 := heap_same W ⟨b, k * 2, none⟩ (.int .i32 x.f0) h1 rfl
  have e2 := heap_same _ ⟨b, k * 2 + 1, none⟩ (.int .i64 x.f1) e1 rfl
  refine ⟨_, e2, by simpa using h2, fun j y hy => ?_⟩
  simp only [Array.getElem?_setIfInBounds]
  rw [List.getElem?_set] at hy
  by_cases e : k = j
  · subst e
    rw [if_pos rfl, if_pos hk] at hy
    obtain rfl := Option.some.inj hy
    have s1 : k * 2 < c.size := by omega
    have s2 : k * 2 + 1 < c.size := by omega
    constructor
    · rw [if_neg (by omega), if_pos rfl, if_pos s1]
    · rw [if_pos rfl, if_pos (by simpa using s2)]
  · rw [if_neg e] at hy
    obtain ⟨h4, h5⟩ := h3 j y hy
    constructor
    · rw [if_neg (by omega), if_neg (by omega)]; exact h4
    · rw [if_neg (by omega), if_neg (by omega)]; exact h5
theorem keep_setCells (b : Nat) : ∀ (vs : List Value) (o : Nat) (w : World), KeepS (fun i => i = b) w (w.setCells b o vs)
  | [], _, _ => KeepS.refl _ _
  | v :: vs, o, w => ((KeepS.refl (fun i => i = b) w).set (p := ⟨b, o, none⟩) (.inl rfl) v).trans (keep_setCells b vs (o + 1) _)
theorem zeroKey (u : World) : (zeroValue 93).run Try.prog u = .ok (.agg #[.int .i32 0, .int .i64 0]) u := by kernel_rfl
theorem clear_is {W : World} {b : Nat} {l : List KeyD} (h : KRow W b l) {k n c : Nat} (hk : k + n ≤ l.length) (hn : 0 < n) :
    ∃ W', (Builtin.clear_ #[34] 0 #[.slice (some ⟨b, k * 2, none⟩) n c]).run Try.prog W = .ok (.tuple #[]) W' ∧ KeepS (fun i => i = b) W W' := by
  obtain ⟨cells, h1, h2, h3⟩ := h
  obtain ⟨m, rfl⟩ : ∃ m, n = m + 1 := ⟨n - 1, by omega⟩
  have hmem : ∀ v ∈ (Builtin.zeroCells #[.int .i32 0, .int .i64 0] (m + 1)).toList, v.oneCell' = true := by
    intro v hv
    unfold Builtin.zeroCells at hv
    simp only [Array.toList_map, List.mem_map] at hv
    obtain ⟨i, _, rfl⟩ := hv
    rcases Nat.mod_two_eq_zero_or_one i with e | e <;> simp [e] <;> rfl
  have hlen : (Builtin.zeroCells #[.int .i32 0, .int .i64 0] (m + 1)).toList.length = (m + 1) * 2 := by
    unfold Builtin.zeroCells
    simp
  have hrun := run_storeCells_cells (P := Try.prog) b (k * 2) (Builtin.zeroCells #[.int .i32 0, .int .i64 0] (m + 1)).toList 0 W
    (fun j hj => by
      rw [hlen] at hj
      have hc : k * 2 + 0 + j < cells.size := by omega
      have hc' : k * 2 + j < cells.size := by omega
      simp [World.cell?, h1, hc'])
    (fun j hj => by simp [World.frozen?, h1]) hmem
  have hu : ∀ u : World, (underlying 34).run Try.prog u = .ok (.slice 93) u := fun u => by
    unfold underlying
    simp [go_sem, Try.underlying34]
  have hr2 : (Builtin.clear_ #[34] 0 #[.slice (some ⟨b, k * 2, none⟩) (m + 1) c]).run Try.prog W = .ok (.tuple #[]) (W.setCells b (k * 2 + 0) (Builtin.zeroCells #[.int .i32 0, .int .i64 0] (m + 1)).toList) := by
    unfold Builtin.clear_
    simp [go_sem, hu, zeroKey, hrun, Value.cells]
  exact ⟨_, hr2, keep_setCells b _ _ W⟩
def distUpto (l : List KeyD) (k : Nat) : Prop := ∀ (j : Nat) (x y : KeyD), j + 1 < k → l[j]? = some x → l[j + 1]? = some y → x ≠ y
def CoV (b n : Nat) (l : List KeyD) (w : World) (e : Ending) (w' : World) : Prop := ∃ (A : Option Addr) (m c : Nat), e = .returned (.slice A m c) ∧ (m = n ↔ distUpto l n) ∧ KeepS (fun i => i = b) w w'
def CoI (b : Nat) (l : List KeyD) (w : World) (i : Value) (wr : World) : Prop := ∃ k : Nat, i = .int .i64 k ∧ 1 ≤ k ∧ k ≤ l.length ∧ distUpto l k ∧ Below w.heap.size w wr
def CoJ (b k0 : Nat) (l : List KeyD) (w : World) (k i : Value) (wr : World) : Prop := ∃ (k1 k2 : Nat) (ys : List KeyD), k = .int .i64 k1 ∧ i = .int .i64 k2 ∧ 1 ≤ k2 ∧ k0 + k2 ≤ l.length ∧ k0 ≤ k1 ∧ k1 + 1 ≤ k0 + k2 ∧ KRow wr b ys ∧ ys.length = l.length ∧ KeepS (fun i => i = b) w wr
theorem compact_small (A : Option Addr) (n c : Nat) (w : World) (h2 : n < 2) :
    Calls Try.prog 97 #[.slice A n c] w fun e w' => e = .returned (.slice A n c) ∧ w' = w := by
  have h2b : decide ((n : Int) < 2) = true := decide_eq_true (by omega)
  clear h2
  go_enter Try.func97, Try.ntmps97
  go_wp2_with fail
  go_ret
  exact ⟨rfl, rfl⟩
set_option maxHeartbeats 1000000 in
theorem compact_is (b c : Nat) (l : List KeyD) (w : World) (hr : KRow w b l) (hc : l.length ≤ c) (hn : l.length ≤ 16) :
    Calls Try.prog 97 #[.slice (some ⟨b, 0, none⟩) l.length c] w fun e w' => CoV b l.length l w e w' := by
  have HR := Lib.hid hr; have HC := Lib.hid hc
  clear hr
  by_cases h2 : l.length < 2
  · have h2b : decide ((l.length : Int) < 2) = true := decide_eq_true (by omega)
    have HD := Lib.hid (show distUpto l l.length from fun j x y hj _ _ => by omega)
    clear h2
    go_enter Try.func97, Try.ntmps97
    go_wp2_with fail
    go_ret
    exact ⟨_, _, _, rfl, ⟨fun _ => HD.out, fun _ => rfl⟩, KeepS.refl _ _⟩
  · have h2b : decide ((l.length : Int) < 2) = false := decide_eq_false (by omega)
    have H2 := Lib.hid (show 2 ≤ l.length by omega)
    clear h2
    go_enter Try.func97, Try.ntmps97
    go_wp2_with fail
    go_loopw [3] (fun i wr => CoI b l w i wr) (fun i _ => l.length - (intOf i).toNat)
    case atStart => exact ⟨1, rfl, Nat.le_refl _, by have := H2.out; omega, fun j x y hj _ _ => by omega, Below.refl _ _⟩
    case round =>
      obtain ⟨k, rfl, hk1, hkn, hd, hb⟩ := hrel
      have HD := Lib.hid hd; have HBr := Lib.hid hb
      have HRr := Lib.hid (HR.out.move (hb.block b HR.out.lt))
      clear hd hb
      by_cases hlt : k < l.length
      · obtain ⟨m, rfl⟩ : ∃ m, k = m + 1 := ⟨k - 1, by omega⟩
        obtain ⟨y, hy⟩ : ∃ y, l[m + 1]? = some y := ⟨_, List.getElem?_eq_getElem hlt⟩
        obtain ⟨x, hx⟩ : ∃ x, l[m]? = some x := ⟨_, List.getElem?_eq_getElem (by omega)⟩
        obtain ⟨y0, y1, _, _⟩ := HRr.out.get hy rfl
        obtain ⟨x0, x1, _, _⟩ := HRr.out.get hx rfl
        have HX := Lib.hid hx; have HY := Lib.hid hy
        clear hx hy
        have e2 : IntKind.i64.wrap (m : Int) = (m : Int) := by rw [IntKind.wrap_i64]; omega
        have e3 : ((m : Int) + 1).toNat = m + 1 := by omega
        have g0 : (0 : Int) ≤ (m : Int) + 1 := by omega
        have g1 : (m : Int) + 1 < (l.length : Int) := by omega
        have g2 : (m : Int) < (l.length : Int) := by omega
        by_cases hk : y = x
        · have hq : ∀ W : World, (Op.equalIn 10000 93 (.agg #[.int .i32 y.f0, .int .i64 y.f1]) (.agg #[.int .i32 x.f0, .int .i64 x.f1])).run Try.prog W = .ok true W := fun W => by rw [hk]; exact eqk_self x W
          have HK := Lib.hid hk
          clear hk
          go_wp2_with fail
          refine wp_region_still_tail 9 (by kernel_rfl) (by kernel_rfl) ?_
          simp only [List.take_succ_cons, List.take_zero, List.drop_succ_cons, List.drop_zero]
          iterate 9 still_step
          refine wpStill_nil ?_
          change wpList _ _ _ _ _ wr.drew
          have hcm : ¬ c = m + 1 := by have := HC.out; omega
          have HRd := Lib.hid (HRr.out.move (W' := wr.drew) rfl)
          have HBd := Lib.hid (HBr.out.drew)
          obtain ⟨w5, hw5⟩ : ∃ w5, wr.drew = w5 := ⟨_, rfl⟩
          rw [hw5] at HRd HBd ⊢
          clear hw5 y0 y1 x0 x1
          go_wp2_with fail
          obtain ⟨n2, hn2⟩ : ∃ n2, l.length - (m + 1) = n2 := ⟨_, rfl⟩
          have HN2 := Lib.hid hn2
          rw [hn2]
          have hnm : n2 ≤ 16 := by omega
          clear hn2
          go_loopw [3, 5] (fun k i wq => CoJ b (m + 1) l w k i wq) (fun _ i _ => l.length - (intOf i).toNat)
          case atStart => exact ⟨m + 1, 1, l, by go_num, rfl, by omega, by omega, by omega, by omega, HRd.out, rfl, KeepS.of_below _ HBd.out⟩
          case round =>
            obtain ⟨k1, k2, ys, rfl, rfl, hk2, hkl, hk01, hk12, hys, hyl, hks⟩ := hrel
            have HYS := Lib.hid hys; have HKS := Lib.hid hks; have HYL := Lib.hid hyl
            clear hys hks hyl
            by_cases hl2 : k2 < n2
            · obtain ⟨q, rfl⟩ : ∃ q, k2 = q + 1 := ⟨k2 - 1, by omega⟩
              obtain ⟨u, hu⟩ : ∃ u, ys[m + 1 + (q + 1)]? = some u := ⟨_, List.getElem?_eq_getElem (by have := HYL.out; have := HN2.out; omega)⟩
              obtain ⟨v, hv⟩ : ∃ v, ys[m + 1 + q]? = some v := ⟨_, List.getElem?_eq_getElem (by have := HYL.out; omega)⟩
              obtain ⟨u0, u1, _, _⟩ := HYS.out.get hu (o := (m + 1) * 2 + (q + 1) * 2) (by omega)
              obtain ⟨v0, v1, _, _⟩ := HYS.out.get hv (o := (m + 1) * 2 + q * 2) (by omega)
              have HU := Lib.hid hu
              have e4 : IntKind.i64.wrap (q : Int) = (q : Int) := by rw [IntKind.wrap_i64]; omega
              have e5 : ((q : Int) + 1).toNat = q + 1 := by omega
              have g3 : (0 : Int) ≤ (q : Int) + 1 := by omega
              have g4 : (q : Int) + 1 < (n2 : Int) := by omega
              have g5 : (q : Int) < (n2 : Int) := by omega
              have g6 : (0 : Int) ≤ (k1 : Int) := by omega
              have hk1l : k1 < l.length := by have := HN2.out; omega
              have g7 : (k1 : Int) < (l.length : Int) := by omega
              clear hu hv
              by_cases huv : u = v
              · have hq2 : ∀ W : World, (Op.equalIn 10000 93 (.agg #[.int .i32 u.f0, .int .i64 u.f1]) (.agg #[.int .i32 v.f0, .int .i64 v.f1])).run Try.prog W = .ok true W := fun W => by rw [huv]; exact eqk_self v W
                clear huv
                go_wp2_with fail
                refine wp_region_still_tail 9 (by kernel_rfl) (by kernel_rfl) ?_
                simp only [List.take_succ_cons, List.take_zero, List.drop_succ_cons, List.drop_zero]
                iterate 9 still_step
                refine wpStill_nil ?_
                change wpList _ _ _ _ _ wr.drew
                go_wp2_with fail
                go_roundw
                case rel => exact ⟨k1, q + 1 + 1, ys, rfl, by go_num, by omega, by have := HN2.out; omega, hk01, by omega, HYS.out.move rfl, HYL.out, HKS.out.drew⟩
                case measure => simp [intOf]; have := HN2.out; omega
              · have hq2 : ∀ W : World, (Op.equalIn 10000 93 (.agg #[.int .i32 u.f0, .int .i64 u.f1]) (.agg #[.int .i32 v.f0, .int .i64 v.f1])).run Try.prog W = .ok false W := fun W => eqk_ne huv W
                clear huv
                obtain ⟨t, ht⟩ : ∃ t, ys[k1]? = some t := ⟨_, List.getElem?_eq_getElem (by have := HYL.out; omega)⟩
                obtain ⟨s0, s1, z0, z1⟩ := HYS.out.get ht (o := k1 * 2) rfl
                clear ht
                go_wp2_with fail
                refine wp_region_still_tail 9 (by kernel_rfl) (by kernel_rfl) ?_
                simp only [List.take_succ_cons, List.take_zero, List.drop_succ_cons, List.drop_zero]
                iterate 9 still_step
                refine wpStill_nil ?_
                change wpList _ _ _ _ _ wr.drew
                go_wp2_with fail
                go_roundw
                case rel =>
                  refine ⟨k1 + 1, q + 1 + 1, ys.set k1 u, by go_num, by go_num, by omega, by have := HN2.out; omega, by omega, by omega, ?_, by rw [List.length_set]; exact HYL.out, ?_⟩
                  · exact (HYS.out.move (W' := wr.drew) rfl).set (by have := HYL.out; omega) u
                  · exact (HKS.out.drew.set (p := ⟨b, k1 * 2, none⟩) (.inl rfl) _).set (p := ⟨b, k1 * 2 + 1, none⟩) (.inl rfl) _
                case measure => simp [intOf]; have := HN2.out; omega
            · have hk1n : k1 < l.length := by have := HN2.out; omega
              have hk1c : ¬ c = k1 := by have := HC.out; omega
              have g6 : (0 : Int) ≤ (k1 : Int) := by omega
              have g7 : (k1 : Int) ≤ (l.length : Int) := by omega
              have g8 : (k1 : Int) ≤ (c : Int) := by have := HC.out; omega
              obtain ⟨W', hcl, hkp⟩ := clear_is HYS.out (k := k1) (n := l.length - k1) (c := c - k1) (by have := HYL.out; omega) (by omega)
              have HKP := Lib.hid hkp
              clear hkp
              go_wp2_with fail
              go_ret
              refine ⟨_, _, _, rfl, ⟨fun e => by omega, fun h => absurd HK.out.symm (h m x y (by omega) HX.out HY.out)⟩, ?_⟩
              exact HKS.out.trans HKP.out
        · have hq : ∀ W : World, (Op.equalIn 10000 93 (.agg #[.int .i32 y.f0, .int .i64 y.f1]) (.agg #[.int .i32 x.f0, .int .i64 x.f1])).run Try.prog W = .ok false W := fun W => eqk_ne hk W
          have HN := Lib.hid (show distUpto l (m + 1 + 1) from fun j u v hj hu hv => by
            rcases Nat.lt_or_ge j m with h | h
            · exact HD.out j u v (by omega) hu hv
            · obtain rfl : j = m := by omega
              rw [HX.out] at hu
              rw [HY.out] at hv
              cases hu
              cases hv
              exact fun e => hk e.symm)
          clear hk
          go_wp2_with fail
          refine wp_region_still_tail 9 (by kernel_rfl) (by kernel_rfl) ?_
          simp only [List.take_succ_cons, List.take_zero, List.drop_succ_cons, List.drop_zero]
          iterate 9 still_step
          refine wpStill_nil ?_
          change wpList _ _ _ _ _ wr.drew
          go_wp2_with fail
          go_roundw
          case rel => exact ⟨m + 1 + 1, by go_num, by omega, by omega, HN.out, HBr.out.drew⟩
          case measure => simp [intOf]; omega
      · have hkn' : k = l.length := by omega
        have HN := Lib.hid (show distUpto l l.length by have := HD.out; rwa [hkn'] at this)
        clear hkn'
        go_wp2_with fail
        go_ret
        exact ⟨_, _, _, rfl, ⟨fun _ => HN.out, fun _ => rfl⟩, KeepS.of_below _ HBr.out⟩
def risB : List KeyD → Bool
  | a :: b :: r => kLt (kv a) (kv b) && risB (b :: r)
  | _ => true
def mayK (l : List KeyD) : Bool := decide (l.length ≤ 16) && risB l
theorem ris_iff : ∀ l : List KeyD, risB l = true ↔ ∀ (j : Nat) (x y : KeyD), l[j]? = some x → l[j + 1]? = some y → kLt (kv x) (kv y) = true
  | [] => by simp [risB]
  | [a] => by
    simp only [risB, true_iff]
    intro j x y hx hy
    simp at hy
  | a :: b :: r => by
    unfold risB
    rw [Bool.and_eq_true, ris_iff (b :: r)]
    constructor
    · rintro ⟨h1, h2⟩ j x y hx hy
      cases j with
      | zero =>
        simp only [List.getElem?_cons_zero, Option.some.injEq] at hx
        simp only [Nat.zero_add, List.getElem?_cons_succ, List.getElem?_cons_zero, Option.some.injEq] at hy
        rw [← hx, ← hy]
        exact h1
      | succ j => exact h2 j x y (by simpa using hx) (by simpa using hy)
    · exact fun h => ⟨h 0 a b rfl rfl, fun j x y hx hy => h (j + 1) x y (by simpa using hx) (by simpa using hy)⟩
theorem kLt_total {x y : Int × Int} (h : kLt x y = false) (k : kLt y x = false) : x = y := by
  unfold kLt at h k
  simp only [Bool.or_eq_false_iff, Bool.and_eq_false_iff, decide_eq_false_iff_not] at h k
  apply Prod.ext <;> omega
theorem kLt_asymm {x y : Int × Int} (h : kLt x y = true) : kLt y x = false := by
  unfold kLt at h ⊢
  simp only [Bool.or_eq_true, Bool.and_eq_true, decide_eq_true_eq] at h
  simp only [Bool.or_eq_false_iff, Bool.and_eq_false_iff, decide_eq_false_iff_not]
  omega
theorem kv_inj {x y : KeyD} (h : kv x = kv y) : x = y := by
  cases x; cases y
  simp only [kv, Prod.mk.injEq] at h
  rw [h.1, h.2]
theorem ris_nd (l : List KeyD) : risB l = true ↔ ndFrom l 0 ∧ distUpto l l.length := by
  rw [ris_iff]
  constructor
  · exact fun h => ⟨fun j x y _ hx hy => kLt_asymm (h j x y hx hy), fun j x y _ hx hy e => by
      have := h j x y hx hy
      rw [e] at this
      unfold kLt at this
      simp at this⟩
  · rintro ⟨h1, h2⟩ j x y hx hy
    have hl := (List.getElem?_eq_some_iff.1 hy).1
    rw [← Bool.not_eq_false]
    exact fun h3 => h2 j x y hl hx hy (kv_inj (kLt_total h3 (h1 j x y (Nat.zero_le _) hx hy)))
theorem krow_of {W : World} {base : Nat} {ok : Nat → Prop} {v : Value} {l : List KeyD} (h : Kd.R G.k93 93 W base ok v l) (hl : 0 < l.length) : ∃ (b c : Nat), v = .slice (some ⟨b, 0, none⟩) l.length c ∧ l.length ≤ c ∧ base ≤ b ∧ KRow W b l := by
  obtain ⟨_, inner, ⟨hil, ho⟩, hrep⟩ := h
  rcases ho with ⟨rfl, h0⟩ | ⟨g, cap, cur, rfl, hb, hg, hnc, _, hcs, htk⟩
  · omega
  · refine ⟨g, cap, rfl, hnc, hb, cur, hg, ?_, fun j x hj => ?_⟩
    · have hs : G.k93.sz = 2 := rfl
      rw [hcs, hs]
      omega
    · have h1 := G.k93_openM (hrep.2 j x hj)
      have hs : G.k93.sz = 2 := rfl
      have hjl := (List.getElem?_eq_some_iff.1 hj).1
      rw [hs] at h1
      have h2 : inner[j * 2]? = some (.int .i32 x.f0) := by
        have := congrArg (fun q => q[0]?) h1
        simpa [List.getElem?_take, List.getElem?_drop] using this
      have h3 : inner[j * 2 + 1]? = some (.int .i64 x.f1) := by
        have := congrArg (fun q => q[1]?) h1
        simpa [List.getElem?_take, List.getElem?_drop] using this
      rw [← htk, hs, List.getElem?_take] at h2 h3
      rw [if_pos (by omega)] at h2 h3
      exact ⟨by simpa using h2, by simpa using h3⟩
set_option maxHeartbeats 1000000 in
theorem keys_is (A : Option Addr) (c : Nat) (l : List KeyD) (w : World) (hr : Kd.C G.k93 w A l.length l) (hc : l.length ≤ c) :
    Calls Try.prog 71 #[.slice A l.length c] w fun e w' => e = .returned (.bool (mayK l)) ∧ Below w.heap.size w w' := by
  have HR := Lib.hid hr; have HC := Lib.hid hc
  have HS := Lib.hid (sorted_is A c l w hr)
  clear hr hc
  go_enter Try.func71, Try.ntmps71
  go_wp2_with fail
  refine HS.out.mono ?_
  rintro e w1 ⟨b, rfl, hb, hb1⟩
  have HB := Lib.hid hb; have HB1 := Lib.hid hb1
  clear hb hb1 HS
  by_cases h16 : l.length ≤ 16
  · have hq : decide ((l.length : Int) ≤ 16) = true := decide_eq_true (by omega)
    have H16 := Lib.hid h16
    clear h16
    cases b with
    | false =>
      have HM := Lib.hid (show mayK l = false by
        unfold mayK
        have : risB l = false := by
          rw [← Bool.not_eq_true]
          exact fun h => by have := HB.out.2 ((ris_nd l).1 h).1; cases this
        rw [this, Bool.and_false])
      go_wp2_with fail
      go_ret
      exact ⟨by rw [HM.out]; rfl, HB1.out⟩
    | true =>
      have HND := Lib.hid (HB.out.1 rfl)
      go_wp2_with fail
      refine (clone_keys A c l w1 (Kd.C_below HR.out HB1.out) HC.out (by have := H16.out; omega)).mono ?_
      rintro e w2 ⟨v, rfl, hv, hb2⟩
      have HB2 := Lib.hid (HB1.out.trans (hb2.mono HB1.out.size))
      rcases Nat.eq_zero_or_pos l.length with h0 | h0
      · obtain ⟨A2, c2, rfl⟩ := Kd.R_slice hv
        have HM := Lib.hid (show mayK l = true by
          obtain rfl := List.eq_nil_of_length_eq_zero h0
          rfl)
        have HE := Lib.hid h0
        rw [h0]
        clear hv hb2 h0
        go_wp2_with fail
        refine (compact_small A2 0 c2 w2 (by omega)).mono ?_
        rintro e w3 ⟨rfl, rfl⟩
        go_wp2_with fail
        go_ret
        exact ⟨by rw [HM.out]; rfl, HB2.out⟩
      · obtain ⟨g, cc, rfl, hcc, hg, hK⟩ := krow_of hv h0
        have HG := Lib.hid hg; have HK := Lib.hid hK; have HCC := Lib.hid hcc
        have HZ := Lib.hid hb2.size
        clear hv hb2 hg hK hcc
        go_wp2_with fail
        refine (compact_is g cc l w2 HK.out HCC.out H16.out).mono ?_
        rintro e w3 ⟨A3, m, c3, rfl, hm, hk⟩
        have HM := Lib.hid (show mayK l = (decide (m = l.length)) by
          unfold mayK
          rw [decide_eq_true H16.out, Bool.true_and, Bool.eq_iff_iff, decide_eq_true_eq, ris_nd, hm]
          exact ⟨fun h => h.2, fun h => ⟨HND.out, h⟩⟩)
        have HBE := Lib.hid (HB2.out.trans (hk.below (B := w.heap.size) HB2.out.size (by have := HG.out; have := HB1.out.size; rintro i rfl; omega)))
        clear hm hk
        go_wp2_with fail
        go_ret
        refine ⟨?_, HBE.out⟩
        rw [HM.out]
        show Ending.returned (.bool ((m : Int) == (l.length : Int))) = _
        congr 2
        rw [Bool.eq_iff_iff, beq_iff_eq, decide_eq_true_eq]
        omega
  · have hq : decide ((l.length : Int) ≤ 16) = false := decide_eq_false (by omega)
    have HM := Lib.hid (show mayK l = false by unfold mayK; rw [decide_eq_false h16, Bool.false_and])
    clear h16
    go_wp2_with fail
    go_ret
    exact ⟨by rw [HM.out]; rfl, HB1.out⟩
end Go.Proofs.Ytgiefblcckikeaa.M
namespace Go.Proofs.Ytgiefblcckikeaa.G
open Go.RowKit Go.Proofs.YtgiefblcckikeaaW.PrintWords Go.Proofs.Ytgiefblcckikeaa.M
def record_keys.f (l0 : List S93) : Option Bool := some (mayK l0)
theorem record_keys.calls (A0 : Option Addr) (c0 : Nat) (l0 : List S93) (r : Bool) (w : World) (hr0 : Kd.C k93 w A0 l0.length l0) (hc0 : l0.length ≤ c0) (h : record_keys.f l0 = some r) :
    Calls Try.prog 71 #[.slice A0 l0.length c0] w fun e w' => e = .returned (.bool r) ∧ Below w.heap.size w w' := by
  obtain rfl := Option.some.inj h
  exact keys_is A0 c0 l0 w hr0 hc0
end Go.Proofs.Ytgiefblcckikeaa.G
end

section

-- Written by a program of this session's (wip/gprint.py over the kit's printer).
namespace Go.Proofs.Ytgiefblcckikeaa.G
open Go.RowKit Go.Proofs.YtgiefblcckikeaaW.PrintWords Go.Proofs.YtgiefblcckikeaaW.PrintLast Go.Proofs.YtgiefblcckikeaaW.PrintMore
attribute [local go_sem] max2_int min2_int max_two min_two max_three min_three max_four min_four   -- for this text's walks alone
set_option linter.unusedVariables false
set_option linter.unusedSimpArgs false
def record_txn.f (a0_0 : Int) (a0_1 : Int) (l0_2 : List Int) (l0_3 : List Int) (l0_4 : List (S93)) (l0_5 : List (S93)) : Option (Bool) := (record_between.f 1 1099511627776 (([a0_0, a0_1] : List Int))).bind fun t198 => (if t198 = true then (if (l0_2.length : Int) ≤ 512 then (if (l0_3.length : Int) ≤ 8 then ((record_keys.f l0_4).bind fun t199 => (if t199 = true then ((record_keys.f l0_5).bind fun t200 => (some t200)) else (some false))) else (some false)) else (some false)) else (some false))
set_option maxHeartbeats 8000000 in
set_option maxRecDepth 100000 in
theorem record_txn.calls (a0_0 : Int) (a0_1 : Int) (A0_2 : Option Addr) (c0_2 : Nat) (l0_2 : List Int) (A0_3 : Option Addr) (c0_3 : Nat) (l0_3 : List Int) (A0_4 : Option Addr) (c0_4 : Nat) (l0_4 : List (S93)) (A0_5 : Option Addr) (c0_5 : Nat) (l0_5 : List (S93)) (r : Bool) (w : World) (hr0_2 : Kd.C (Kd.int .u8) w A0_2 l0_2.length l0_2) (hc0_2 : l0_2.length ≤ c0_2) (hr0_3 : Kd.C (Kd.int .i64) w A0_3 l0_3.length l0_3) (hc0_3 : l0_3.length ≤ c0_3) (hr0_4 : Kd.C k93 w A0_4 l0_4.length l0_4) (hc0_4 : l0_4.length ≤ c0_4) (hr0_5 : Kd.C k93 w A0_5 l0_5.length l0_5) (hc0_5 : l0_5.length ≤ c0_5) (h : record_txn.f a0_0 a0_1 l0_2 l0_3 l0_4 l0_5 = some r) :
    Calls Try.prog 38 #[.agg #[.int .i64 a0_0, .int .i64 a0_1, .slice A0_2 l0_2.length c0_2, .slice A0_3 l0_3.length c0_3, .slice A0_4 l0_4.length c0_4, .slice A0_5 l0_5.length c0_5]] w fun e w' => e = .returned (.bool r) ∧ Below w.heap.size w w' := by
  have hu36 := Try.underlying36
  have HR0_2 := Aside0.mk hr0_2
  have HC0_2 := Aside0.mk hc0_2
  clear hr0_2 hc0_2
  have HR0_3 := Aside0.mk hr0_3
  have HC0_3 := Aside0.mk hc0_3
  clear hr0_3 hc0_3
  have HR0_4 := Aside0.mk hr0_4
  have HC0_4 := Aside0.mk hc0_4
  clear hr0_4 hc0_4
  have HR0_5 := Aside0.mk hr0_5
  have HC0_5 := Aside0.mk hc0_5
  clear hr0_5 hc0_5
  have HB := Aside0.mk (Below.refl w.heap.size w)
  have H : ((record_between.f 1 1099511627776 (([a0_0, a0_1] : List Int))).bind fun t198 => (if t198 = true then (if (l0_2.length : Int) ≤ 512 then (if (l0_3.length : Int) ≤ 8 then ((record_keys.f l0_4).bind fun t199 => (if t199 = true then ((record_keys.f l0_5).bind fun t200 => (some t200)) else (some false))) else (some false)) else (some false)) else (some false))) = some r := h
  clear h
  obtain ⟨y195, hy195⟩ : ∃ y_ : List Int, y_ = (([a0_0, a0_1] : List Int)) := ⟨_, rfl⟩
  replace H : ((record_between.f 1 1099511627776 y195).bind fun t198 => (if t198 = true then (if (l0_2.length : Int) ≤ 512 then (if (l0_3.length : Int) ≤ 8 then ((record_keys.f l0_4).bind fun t199 => (if t199 = true then ((record_keys.f l0_5).bind fun t200 => (some t200)) else (some false))) else (some false)) else (some false)) else (some false))) = some r := by first | (rw [hy195]; with_reducible exact H) | (have H2_ := (Option.bind_some _ _).symm.trans H; rw [hy195]; with_reducible exact H2_) | (have H2_ := (Option.bind_some _ _).symm.trans H; with_reducible exact H2_) | with_reducible exact H | (rw [hy195]; exact H) | exact H
  have Ny195 := Aside0.mk hy195
  clear hy195
  replace H := Option.bind_eq_some_iff.mp H
  obtain ⟨t198, A20, H⟩ := H
  replace H : (if t198 = true then (if (l0_2.length : Int) ≤ 512 then (if (l0_3.length : Int) ≤ 8 then ((record_keys.f l0_4).bind fun t199 => (if t199 = true then ((record_keys.f l0_5).bind fun t200 => (some t200)) else (some false))) else (some false)) else (some false)) else (some false)) = some r := H
  have A2 := Aside0.mk A20
  clear A20
  by_cases c3 : t198 = true
  · subst c3
    have H1 : (if (l0_2.length : Int) ≤ 512 then (if (l0_3.length : Int) ≤ 8 then ((record_keys.f l0_4).bind fun t199 => (if t199 = true then ((record_keys.f l0_5).bind fun t200 => (some t200)) else (some false))) else (some false)) else (some false)) = some r := by rw [if_pos rfl] at H; exact H
    clear H
    have H := H1
    clear H1
    by_cases c4 : (l0_2.length : Int) ≤ 512
    · rw [if_pos c4] at H
      have c4b0 : decide ((l0_2.length : Int) ≤ 512) = true := decide_eq_true c4
      have c4b1 : decide (l0_2.length ≤ 512) = true := decide_eq_true (by omega)
      clear c4
      by_cases c5 : (l0_3.length : Int) ≤ 8
      · rw [if_pos c5] at H
        have c5b0 : decide ((l0_3.length : Int) ≤ 8) = true := decide_eq_true c5
        have c5b1 : decide (l0_3.length ≤ 8) = true := decide_eq_true (by omega)
        clear c5
        replace H := Option.bind_eq_some_iff.mp H
        obtain ⟨t199, A60, H⟩ := H
        replace H : (if t199 = true then ((record_keys.f l0_5).bind fun t200 => (some t200)) else (some false)) = some r := H
        have A6 := Aside0.mk A60
        clear A60
        by_cases c7 : t199 = true
        · subst c7
          have H1 : ((record_keys.f l0_5).bind fun t200 => (some t200)) = some r := by rw [if_pos rfl] at H; exact H
          clear H
          have H := H1
          clear H1
          replace H := Option.bind_eq_some_iff.mp H
          obtain ⟨t200, A80, H⟩ := H
          replace H : (some t200) = some r := H
          have A8 := Aside0.mk A80
          clear A80
          obtain rfl := Option.some.inj H
          go_enter Try.func38, Try.ntmps38
          go_wp2_with (first | ((with_reducible refine gate_dst (N := 1) rfl ?_); (try (refine gate_guard (by rfl) ?_; dsimp only)); refine box_event ?hg (N := 1) ?hd (cs := #[.int .i64 a0_0, .int .i64 a0_1, .slice A0_2 l0_2.length c0_2, .slice A0_3 l0_3.length c0_3, .slice A0_4 l0_4.length c0_4, .slice A0_5 l0_5.length c0_5]) (t := 36) ?hr ?_; (case hd => rfl); (case hg => rfl); (case hr => first | (go_simp; done) | (go_simp; rfl)); intro gb194 hg w9 hbox hb; have n0_ := Aside0.mk (below_step (by repeat (first | (with_reducible first | exact HB.out | apply below_alloc | apply pw_below_drewN | apply below_drew1) | exact HB.out)) hb); have n1_ := Aside0.mk (hbox); have n2_ := Aside0.mk ((by rw [hg]; exact (below_size (by repeat (first | (with_reducible first | exact HB.out | apply below_alloc | apply pw_below_drewN | apply below_drew1) | exact HB.out))) : w.heap.size ≤ gb194)); have n3_ := Aside0.mk ((by rw [hg]; exact (below_size (by repeat (first | (with_reducible first | exact HB.out | apply below_alloc | apply pw_below_drewN | apply below_drew1) | exact HB.out))) : w.heap.size ≤ gb194)); clear HB; have HB := n0_; have BK194 := n1_; have GW194 := n2_; have GE194 := n3_; clear n0_ n1_ n2_ n3_; clear hb hbox hg; have hcz10_0 : w9.cell? ⟨gb194, 0, none⟩ = some (.int .i64 a0_0) := (blk_cell BK194.out 0).trans rfl; have hcz10_1 : w9.cell? ⟨gb194, 1, none⟩ = some (.int .i64 a0_1) := (blk_cell BK194.out 1).trans rfl; have hcz10_2 : w9.cell? ⟨gb194, 2, none⟩ = some (.slice A0_2 l0_2.length c0_2) := (blk_cell BK194.out 2).trans rfl; have hcz10_3 : w9.cell? ⟨gb194, 3, none⟩ = some (.slice A0_3 l0_3.length c0_3) := (blk_cell BK194.out 3).trans rfl; have hcz10_4 : w9.cell? ⟨gb194, 4, none⟩ = some (.slice A0_4 l0_4.length c0_4) := (blk_cell BK194.out 4).trans rfl; have hcz10_5 : w9.cell? ⟨gb194, 5, none⟩ = some (.slice A0_5 l0_5.length c0_5) := (blk_cell BK194.out 5).trans rfl; have hfz10_0 := blk_frozen BK194.out 0; have hfz10_1 := blk_frozen BK194.out 1; have hfz10_2 := blk_frozen BK194.out 2; have hfz10_3 := blk_frozen BK194.out 3; have hfz10_4 := blk_frozen BK194.out 4; have hfz10_5 := blk_frozen BK194.out 5) | ((with_reducible refine gate_dst (N := 7) rfl ?_); (try (refine gate_guard (by rfl) ?_; dsimp only)); refine Kd.R_lit (Kd.int .i64) _ 2 ?hg (N := 7) ?hd (xs := ([a0_0, a0_1] : List Int)) (inner := [.int .i64 a0_0, .int .i64 a0_1]) (ok := fun _ => True) (okp := fun _ => True) ?hr ?hp (fun _ hk => hk) trivial (Below.refl _ _) (Nat.le_refl _) (by simp) ?_; (case hd => rfl); (case hg => rfl); (case hr => first | (go_simp; done) | (go_simp; rfl)); (case hp => exact (Reps.one (show Kd.M (Kd.int .i64) _ _ _ a0_0 [.int .i64 a0_0] from rfl) (Reps.one (show Kd.M (Kd.int .i64) _ _ _ a0_1 [.int .i64 a0_1] from rfl) (Reps.none _ _)))); intro v196 w11 ho12 hb hg_ hnew_; clear hg_ hnew_; (first | rw [← Ny195.out] at ho12 | (simp only [Int.reduceToNat] at ho12; rw [← Ny195.out] at ho12)); have n0_ := Aside0.mk (Kd.R_lower ho12 (below_size (by repeat (first | (with_reducible first | exact HB.out | apply below_alloc | apply pw_below_drewN | apply below_drew1 | refine below_set ?_ GE194.out) | exact HB.out)))); have n1_ := Aside0.mk (blk_below (g := gb194) (o := .cells #[.int .i64 a0_0, .int .i64 a0_1, .slice A0_2 l0_2.length c0_2, .slice A0_3 l0_3.length c0_3, .slice A0_4 l0_4.length c0_4, .slice A0_5 l0_5.length c0_5] 36 (0, 0)) (by (with_reducible repeat (first | refine blk_drewN ?_ _ | refine blk_drew ?_ | refine blk_alloc ?_ _)); exact BK194.out) hb); have n2_ := Aside0.mk (below_step (by repeat (first | (with_reducible first | exact HB.out | apply below_alloc | apply pw_below_drewN | apply below_drew1 | refine below_set ?_ GE194.out) | exact HB.out)) hb); clear BK194; clear HB; have HO197 := n0_; have BK194 := n1_; have HB := n2_; clear n0_ n1_ n2_; clear hb ho12; obtain ⟨Ao13, co13, eo13⟩ := Kd.R_slice HO197.out; subst eo13) | ((with_reducible refine gate_callee (f := 63) rfl ?_); refine goesL_ (some 8) rfl rfl Try.func63 (by kernel_rfl) rfl #[.int .i64 1, .int .i64 1099511627776, .slice Ao13 y195.length co13] rfl (by (try simp only [List.map_toArray, List.map_cons, List.map_nil]); first | done | rfl | (simp only [List.length_drop, List.length_take]; rfl)) ?_; (with_reducible refine (record_between.calls 1 1099511627776 _ _ y195 true _ ?side1 ?side2 A2.out).mono ?_); (case side1 => repeat (first | exact (Kd.R_reads' HO197.out).2.2 | (with_reducible refine Kd.C_alloc ?_ _) | (with_reducible refine Kd.C_drewN ?_ _) | (with_reducible refine Kd.C_drew ?_))); (case side2 => exact (Kd.R_reads' HO197.out).2.1); rintro e w14 ⟨rfl, hb⟩; refine ⟨_, rfl, ?_⟩; have n0_ := Aside0.mk (Kd.R_below (by (with_reducible repeat (first|apply Kd.R_alloc | apply Kd.R_drewN | apply Kd.R_drew)); exact HO197.out) hb); have n1_ := Aside0.mk (blk_below (g := gb194) (o := .cells #[.int .i64 a0_0, .int .i64 a0_1, .slice A0_2 l0_2.length c0_2, .slice A0_3 l0_3.length c0_3, .slice A0_4 l0_4.length c0_4, .slice A0_5 l0_5.length c0_5] 36 (0, 0)) (by (with_reducible repeat (first | refine blk_drewN ?_ _ | refine blk_drew ?_ | refine blk_alloc ?_ _)); exact BK194.out) hb); have n2_ := Aside0.mk (below_step (by repeat (first | (with_reducible first | exact HB.out | apply below_alloc | apply pw_below_drewN | apply below_drew1 | refine below_set ?_ GE194.out) | exact HB.out)) hb); clear HO197; clear BK194; clear HB; have HO197 := n0_; have BK194 := n1_; have HB := n2_; clear n0_ n1_ n2_; (try clear hb); (try clear hb2); (try clear hk); (try clear hi); have hcz15_0 : w14.cell? ⟨gb194, 0, none⟩ = some (.int .i64 a0_0) := (blk_cell BK194.out 0).trans rfl; have hcz15_1 : w14.cell? ⟨gb194, 1, none⟩ = some (.int .i64 a0_1) := (blk_cell BK194.out 1).trans rfl; have hcz15_2 : w14.cell? ⟨gb194, 2, none⟩ = some (.slice A0_2 l0_2.length c0_2) := (blk_cell BK194.out 2).trans rfl; have hcz15_3 : w14.cell? ⟨gb194, 3, none⟩ = some (.slice A0_3 l0_3.length c0_3) := (blk_cell BK194.out 3).trans rfl; have hcz15_4 : w14.cell? ⟨gb194, 4, none⟩ = some (.slice A0_4 l0_4.length c0_4) := (blk_cell BK194.out 4).trans rfl; have hcz15_5 : w14.cell? ⟨gb194, 5, none⟩ = some (.slice A0_5 l0_5.length c0_5) := (blk_cell BK194.out 5).trans rfl; have hfz15_0 := blk_frozen BK194.out 0; have hfz15_1 := blk_frozen BK194.out 1; have hfz15_2 := blk_frozen BK194.out 2; have hfz15_3 := blk_frozen BK194.out 3; have hfz15_4 := blk_frozen BK194.out 4; have hfz15_5 := blk_frozen BK194.out 5) | (go_at_call 71; (with_reducible refine (record_keys.calls _ _ l0_4 true _ ?side1 ?side2 A6.out).mono ?_); (case side1 => repeat (first | exact (Kd.C_below HR0_4.out HB.out) | (with_reducible refine Kd.C_alloc ?_ _) | (with_reducible refine Kd.C_drewN ?_ _) | (with_reducible refine Kd.C_drew ?_))); (case side2 => exact HC0_4.out); rintro e w16 ⟨rfl, hb⟩; have n0_ := Aside0.mk (Kd.R_below (by (with_reducible repeat (first|apply Kd.R_alloc | apply Kd.R_drewN | apply Kd.R_drew)); exact HO197.out) hb); have n1_ := Aside0.mk (blk_below (g := gb194) (o := .cells #[.int .i64 a0_0, .int .i64 a0_1, .slice A0_2 l0_2.length c0_2, .slice A0_3 l0_3.length c0_3, .slice A0_4 l0_4.length c0_4, .slice A0_5 l0_5.length c0_5] 36 (0, 0)) (by (with_reducible repeat (first | refine blk_drewN ?_ _ | refine blk_drew ?_ | refine blk_alloc ?_ _)); exact BK194.out) hb); have n2_ := Aside0.mk (below_step (by repeat (first | (with_reducible first | exact HB.out | apply below_alloc | apply pw_below_drewN | apply below_drew1 | refine below_set ?_ GE194.out) | exact HB.out)) hb); clear HO197; clear BK194; clear HB; have HO197 := n0_; have BK194 := n1_; have HB := n2_; clear n0_ n1_ n2_; (try clear hb); (try clear hb2); (try clear hk); (try clear hi); have hcz17_0 : w16.cell? ⟨gb194, 0, none⟩ = some (.int .i64 a0_0) := (blk_cell BK194.out 0).trans rfl; have hcz17_1 : w16.cell? ⟨gb194, 1, none⟩ = some (.int .i64 a0_1) := (blk_cell BK194.out 1).trans rfl; have hcz17_2 : w16.cell? ⟨gb194, 2, none⟩ = some (.slice A0_2 l0_2.length c0_2) := (blk_cell BK194.out 2).trans rfl; have hcz17_3 : w16.cell? ⟨gb194, 3, none⟩ = some (.slice A0_3 l0_3.length c0_3) := (blk_cell BK194.out 3).trans rfl; have hcz17_4 : w16.cell? ⟨gb194, 4, none⟩ = some (.slice A0_4 l0_4.length c0_4) := (blk_cell BK194.out 4).trans rfl; have hcz17_5 : w16.cell? ⟨gb194, 5, none⟩ = some (.slice A0_5 l0_5.length c0_5) := (blk_cell BK194.out 5).trans rfl; have hfz17_0 := blk_frozen BK194.out 0; have hfz17_1 := blk_frozen BK194.out 1; have hfz17_2 := blk_frozen BK194.out 2; have hfz17_3 := blk_frozen BK194.out 3; have hfz17_4 := blk_frozen BK194.out 4; have hfz17_5 := blk_frozen BK194.out 5) | (go_at_call 71; (with_reducible refine (record_keys.calls _ _ l0_5 t200 _ ?side1 ?side2 A8.out).mono ?_); (case side1 => repeat (first | exact (Kd.C_below HR0_5.out HB.out) | (with_reducible refine Kd.C_alloc ?_ _) | (with_reducible refine Kd.C_drewN ?_ _) | (with_reducible refine Kd.C_drew ?_))); (case side2 => exact HC0_5.out); rintro e w18 ⟨rfl, hb⟩; have n0_ := Aside0.mk (Kd.R_below (by (with_reducible repeat (first|apply Kd.R_alloc | apply Kd.R_drewN | apply Kd.R_drew)); exact HO197.out) hb); have n1_ := Aside0.mk (blk_below (g := gb194) (o := .cells #[.int .i64 a0_0, .int .i64 a0_1, .slice A0_2 l0_2.length c0_2, .slice A0_3 l0_3.length c0_3, .slice A0_4 l0_4.length c0_4, .slice A0_5 l0_5.length c0_5] 36 (0, 0)) (by (with_reducible repeat (first | refine blk_drewN ?_ _ | refine blk_drew ?_ | refine blk_alloc ?_ _)); exact BK194.out) hb); have n2_ := Aside0.mk (below_step (by repeat (first | (with_reducible first | exact HB.out | apply below_alloc | apply pw_below_drewN | apply below_drew1 | refine below_set ?_ GE194.out) | exact HB.out)) hb); clear HO197; clear BK194; clear HB; have HO197 := n0_; have BK194 := n1_; have HB := n2_; clear n0_ n1_ n2_; (try clear hb); (try clear hb2); (try clear hk); (try clear hi)))
          go_ret
          exact ⟨by first | rfl | (simp [errW_none, errW_some] <;> rfl) | (simp [*, errW_none, errW_some] <;> rfl), by repeat (first | (with_reducible first | exact HB.out | apply below_alloc | apply pw_below_drewN | apply below_drew1 | refine below_set ?_ GE194.out) | exact HB.out)⟩
        · replace c7 := Bool.eq_false_iff.mpr c7
          subst c7
          have H1 : (some false) = some r := by rw [if_neg (show ¬ (false = true) by decide)] at H; exact H
          clear H
          have H := H1
          clear H1
          obtain rfl := Option.some.inj H
          go_enter Try.func38, Try.ntmps38
          go_wp2_with (first | ((with_reducible refine gate_dst (N := 1) rfl ?_); (try (refine gate_guard (by rfl) ?_; dsimp only)); refine box_event ?hg (N := 1) ?hd (cs := #[.int .i64 a0_0, .int .i64 a0_1, .slice A0_2 l0_2.length c0_2, .slice A0_3 l0_3.length c0_3, .slice A0_4 l0_4.length c0_4, .slice A0_5 l0_5.length c0_5]) (t := 36) ?hr ?_; (case hd => rfl); (case hg => rfl); (case hr => first | (go_simp; done) | (go_simp; rfl)); intro gb194 hg w19 hbox hb; have n0_ := Aside0.mk (below_step (by repeat (first | (with_reducible first | exact HB.out | apply below_alloc | apply pw_below_drewN | apply below_drew1) | exact HB.out)) hb); have n1_ := Aside0.mk (hbox); have n2_ := Aside0.mk ((by rw [hg]; exact (below_size (by repeat (first | (with_reducible first | exact HB.out | apply below_alloc | apply pw_below_drewN | apply below_drew1) | exact HB.out))) : w.heap.size ≤ gb194)); have n3_ := Aside0.mk ((by rw [hg]; exact (below_size (by repeat (first | (with_reducible first | exact HB.out | apply below_alloc | apply pw_below_drewN | apply below_drew1) | exact HB.out))) : w.heap.size ≤ gb194)); clear HB; have HB := n0_; have BK194 := n1_; have GW194 := n2_; have GE194 := n3_; clear n0_ n1_ n2_ n3_; clear hb hbox hg; have hcz20_0 : w19.cell? ⟨gb194, 0, none⟩ = some (.int .i64 a0_0) := (blk_cell BK194.out 0).trans rfl; have hcz20_1 : w19.cell? ⟨gb194, 1, none⟩ = some (.int .i64 a0_1) := (blk_cell BK194.out 1).trans rfl; have hcz20_2 : w19.cell? ⟨gb194, 2, none⟩ = some (.slice A0_2 l0_2.length c0_2) := (blk_cell BK194.out 2).trans rfl; have hcz20_3 : w19.cell? ⟨gb194, 3, none⟩ = some (.slice A0_3 l0_3.length c0_3) := (blk_cell BK194.out 3).trans rfl; have hcz20_4 : w19.cell? ⟨gb194, 4, none⟩ = some (.slice A0_4 l0_4.length c0_4) := (blk_cell BK194.out 4).trans rfl; have hcz20_5 : w19.cell? ⟨gb194, 5, none⟩ = some (.slice A0_5 l0_5.length c0_5) := (blk_cell BK194.out 5).trans rfl; have hfz20_0 := blk_frozen BK194.out 0; have hfz20_1 := blk_frozen BK194.out 1; have hfz20_2 := blk_frozen BK194.out 2; have hfz20_3 := blk_frozen BK194.out 3; have hfz20_4 := blk_frozen BK194.out 4; have hfz20_5 := blk_frozen BK194.out 5) | ((with_reducible refine gate_dst (N := 7) rfl ?_); (try (refine gate_guard (by rfl) ?_; dsimp only)); refine Kd.R_lit (Kd.int .i64) _ 2 ?hg (N := 7) ?hd (xs := ([a0_0, a0_1] : List Int)) (inner := [.int .i64 a0_0, .int .i64 a0_1]) (ok := fun _ => True) (okp := fun _ => True) ?hr ?hp (fun _ hk => hk) trivial (Below.refl _ _) (Nat.le_refl _) (by simp) ?_; (case hd => rfl); (case hg => rfl); (case hr => first | (go_simp; done) | (go_simp; rfl)); (case hp => exact (Reps.one (show Kd.M (Kd.int .i64) _ _ _ a0_0 [.int .i64 a0_0] from rfl) (Reps.one (show Kd.M (Kd.int .i64) _ _ _ a0_1 [.int .i64 a0_1] from rfl) (Reps.none _ _)))); intro v196 w21 ho22 hb hg_ hnew_; clear hg_ hnew_; (first | rw [← Ny195.out] at ho22 | (simp only [Int.reduceToNat] at ho22; rw [← Ny195.out] at ho22)); have n0_ := Aside0.mk (Kd.R_lower ho22 (below_size (by repeat (first | (with_reducible first | exact HB.out | apply below_alloc | apply pw_below_drewN | apply below_drew1 | refine below_set ?_ GE194.out) | exact HB.out)))); have n1_ := Aside0.mk (blk_below (g := gb194) (o := .cells #[.int .i64 a0_0, .int .i64 a0_1, .slice A0_2 l0_2.length c0_2, .slice A0_3 l0_3.length c0_3, .slice A0_4 l0_4.length c0_4, .slice A0_5 l0_5.length c0_5] 36 (0, 0)) (by (with_reducible repeat (first | refine blk_drewN ?_ _ | refine blk_drew ?_ | refine blk_alloc ?_ _)); exact BK194.out) hb); have n2_ := Aside0.mk (below_step (by repeat (first | (with_reducible first | exact HB.out | apply below_alloc | apply pw_below_drewN | apply below_drew1 | refine below_set ?_ GE194.out) | exact HB.out)) hb); clear BK194; clear HB; have HO197 := n0_; have BK194 := n1_; have HB := n2_; clear n0_ n1_ n2_; clear hb ho22; obtain ⟨Ao23, co23, eo23⟩ := Kd.R_slice HO197.out; subst eo23) | ((with_reducible refine gate_callee (f := 63) rfl ?_); refine goesL_ (some 8) rfl rfl Try.func63 (by kernel_rfl) rfl #[.int .i64 1, .int .i64 1099511627776, .slice Ao23 y195.length co23] rfl (by (try simp only [List.map_toArray, List.map_cons, List.map_nil]); first | done | rfl | (simp only [List.length_drop, List.length_take]; rfl)) ?_; (with_reducible refine (record_between.calls 1 1099511627776 _ _ y195 true _ ?side1 ?side2 A2.out).mono ?_); (case side1 => repeat (first | exact (Kd.R_reads' HO197.out).2.2 | (with_reducible refine Kd.C_alloc ?_ _) | (with_reducible refine Kd.C_drewN ?_ _) | (with_reducible refine Kd.C_drew ?_))); (case side2 => exact (Kd.R_reads' HO197.out).2.1); rintro e w24 ⟨rfl, hb⟩; refine ⟨_, rfl, ?_⟩; have n0_ := Aside0.mk (Kd.R_below (by (with_reducible repeat (first|apply Kd.R_alloc | apply Kd.R_drewN | apply Kd.R_drew)); exact HO197.out) hb); have n1_ := Aside0.mk (blk_below (g := gb194) (o := .cells #[.int .i64 a0_0, .int .i64 a0_1, .slice A0_2 l0_2.length c0_2, .slice A0_3 l0_3.length c0_3, .slice A0_4 l0_4.length c0_4, .slice A0_5 l0_5.length c0_5] 36 (0, 0)) (by (with_reducible repeat (first | refine blk_drewN ?_ _ | refine blk_drew ?_ | refine blk_alloc ?_ _)); exact BK194.out) hb); have n2_ := Aside0.mk (below_step (by repeat (first | (with_reducible first | exact HB.out | apply below_alloc | apply pw_below_drewN | apply below_drew1 | refine below_set ?_ GE194.out) | exact HB.out)) hb); clear HO197; clear BK194; clear HB; have HO197 := n0_; have BK194 := n1_; have HB := n2_; clear n0_ n1_ n2_; (try clear hb); (try clear hb2); (try clear hk); (try clear hi); have hcz25_0 : w24.cell? ⟨gb194, 0, none⟩ = some (.int .i64 a0_0) := (blk_cell BK194.out 0).trans rfl; have hcz25_1 : w24.cell? ⟨gb194, 1, none⟩ = some (.int .i64 a0_1) := (blk_cell BK194.out 1).trans rfl; have hcz25_2 : w24.cell? ⟨gb194, 2, none⟩ = some (.slice A0_2 l0_2.length c0_2) := (blk_cell BK194.out 2).trans rfl; have hcz25_3 : w24.cell? ⟨gb194, 3, none⟩ = some (.slice A0_3 l0_3.length c0_3) := (blk_cell BK194.out 3).trans rfl; have hcz25_4 : w24.cell? ⟨gb194, 4, none⟩ = some (.slice A0_4 l0_4.length c0_4) := (blk_cell BK194.out 4).trans rfl; have hcz25_5 : w24.cell? ⟨gb194, 5, none⟩ = some (.slice A0_5 l0_5.length c0_5) := (blk_cell BK194.out 5).trans rfl; have hfz25_0 := blk_frozen BK194.out 0; have hfz25_1 := blk_frozen BK194.out 1; have hfz25_2 := blk_frozen BK194.out 2; have hfz25_3 := blk_frozen BK194.out 3; have hfz25_4 := blk_frozen BK194.out 4; have hfz25_5 := blk_frozen BK194.out 5) | (go_at_call 71; (with_reducible refine (record_keys.calls _ _ l0_4 false _ ?side1 ?side2 A6.out).mono ?_); (case side1 => repeat (first | exact (Kd.C_below HR0_4.out HB.out) | (with_reducible refine Kd.C_alloc ?_ _) | (with_reducible refine Kd.C_drewN ?_ _) | (with_reducible refine Kd.C_drew ?_))); (case side2 => exact HC0_4.out); rintro e w26 ⟨rfl, hb⟩; have n0_ := Aside0.mk (Kd.R_below (by (with_reducible repeat (first|apply Kd.R_alloc | apply Kd.R_drewN | apply Kd.R_drew)); exact HO197.out) hb); have n1_ := Aside0.mk (blk_below (g := gb194) (o := .cells #[.int .i64 a0_0, .int .i64 a0_1, .slice A0_2 l0_2.length c0_2, .slice A0_3 l0_3.length c0_3, .slice A0_4 l0_4.length c0_4, .slice A0_5 l0_5.length c0_5] 36 (0, 0)) (by (with_reducible repeat (first | refine blk_drewN ?_ _ | refine blk_drew ?_ | refine blk_alloc ?_ _)); exact BK194.out) hb); have n2_ := Aside0.mk (below_step (by repeat (first | (with_reducible first | exact HB.out | apply below_alloc | apply pw_below_drewN | apply below_drew1 | refine below_set ?_ GE194.out) | exact HB.out)) hb); clear HO197; clear BK194; clear HB; have HO197 := n0_; have BK194 := n1_; have HB := n2_; clear n0_ n1_ n2_; (try clear hb); (try clear hb2); (try clear hk); (try clear hi)))
          go_ret
          exact ⟨by first | rfl | (simp [errW_none, errW_some] <;> rfl) | (simp [*, errW_none, errW_some] <;> rfl), by repeat (first | (with_reducible first | exact HB.out | apply below_alloc | apply pw_below_drewN | apply below_drew1 | refine below_set ?_ GE194.out) | exact HB.out)⟩
      · rw [if_neg c5] at H
        have c5b0 : decide ((l0_3.length : Int) ≤ 8) = false := decide_eq_false c5
        have c5b1 : decide (l0_3.length ≤ 8) = false := decide_eq_false (by omega)
        clear c5
        obtain rfl := Option.some.inj H
        go_enter Try.func38, Try.ntmps38
        go_wp2_with (first | ((with_reducible refine gate_dst (N := 1) rfl ?_); (try (refine gate_guard (by rfl) ?_; dsimp only)); refine box_event ?hg (N := 1) ?hd (cs := #[.int .i64 a0_0, .int .i64 a0_1, .slice A0_2 l0_2.length c0_2, .slice A0_3 l0_3.length c0_3, .slice A0_4 l0_4.length c0_4, .slice A0_5 l0_5.length c0_5]) (t := 36) ?hr ?_; (case hd => rfl); (case hg => rfl); (case hr => first | (go_simp; done) | (go_simp; rfl)); intro gb194 hg w27 hbox hb; have n0_ := Aside0.mk (below_step (by repeat (first | (with_reducible first | exact HB.out | apply below_alloc | apply pw_below_drewN | apply below_drew1) | exact HB.out)) hb); have n1_ := Aside0.mk (hbox); have n2_ := Aside0.mk ((by rw [hg]; exact (below_size (by repeat (first | (with_reducible first | exact HB.out | apply below_alloc | apply pw_below_drewN | apply below_drew1) | exact HB.out))) : w.heap.size ≤ gb194)); have n3_ := Aside0.mk ((by rw [hg]; exact (below_size (by repeat (first | (with_reducible first | exact HB.out | apply below_alloc | apply pw_below_drewN | apply below_drew1) | exact HB.out))) : w.heap.size ≤ gb194)); clear HB; have HB := n0_; have BK194 := n1_; have GW194 := n2_; have GE194 := n3_; clear n0_ n1_ n2_ n3_; clear hb hbox hg; have hcz28_0 : w27.cell? ⟨gb194, 0, none⟩ = some (.int .i64 a0_0) := (blk_cell BK194.out 0).trans rfl; have hcz28_1 : w27.cell? ⟨gb194, 1, none⟩ = some (.int .i64 a0_1) := (blk_cell BK194.out 1).trans rfl; have hcz28_2 : w27.cell? ⟨gb194, 2, none⟩ = some (.slice A0_2 l0_2.length c0_2) := (blk_cell BK194.out 2).trans rfl; have hcz28_3 : w27.cell? ⟨gb194, 3, none⟩ = some (.slice A0_3 l0_3.length c0_3) := (blk_cell BK194.out 3).trans rfl; have hcz28_4 : w27.cell? ⟨gb194, 4, none⟩ = some (.slice A0_4 l0_4.length c0_4) := (blk_cell BK194.out 4).trans rfl; have hcz28_5 : w27.cell? ⟨gb194, 5, none⟩ = some (.slice A0_5 l0_5.length c0_5) := (blk_cell BK194.out 5).trans rfl; have hfz28_0 := blk_frozen BK194.out 0; have hfz28_1 := blk_frozen BK194.out 1; have hfz28_2 := blk_frozen BK194.out 2; have hfz28_3 := blk_frozen BK194.out 3; have hfz28_4 := blk_frozen BK194.out 4; have hfz28_5 := blk_frozen BK194.out 5) | ((with_reducible refine gate_dst (N := 7) rfl ?_); (try (refine gate_guard (by rfl) ?_; dsimp only)); refine Kd.R_lit (Kd.int .i64) _ 2 ?hg (N := 7) ?hd (xs := ([a0_0, a0_1] : List Int)) (inner := [.int .i64 a0_0, .int .i64 a0_1]) (ok := fun _ => True) (okp := fun _ => True) ?hr ?hp (fun _ hk => hk) trivial (Below.refl _ _) (Nat.le_refl _) (by simp) ?_; (case hd => rfl); (case hg => rfl); (case hr => first | (go_simp; done) | (go_simp; rfl)); (case hp => exact (Reps.one (show Kd.M (Kd.int .i64) _ _ _ a0_0 [.int .i64 a0_0] from rfl) (Reps.one (show Kd.M (Kd.int .i64) _ _ _ a0_1 [.int .i64 a0_1] from rfl) (Reps.none _ _)))); intro v196 w29 ho30 hb hg_ hnew_; clear hg_ hnew_; (first | rw [← Ny195.out] at ho30 | (simp only [Int.reduceToNat] at ho30; rw [← Ny195.out] at ho30)); have n0_ := Aside0.mk (Kd.R_lower ho30 (below_size (by repeat (first | (with_reducible first | exact HB.out | apply below_alloc | apply pw_below_drewN | apply below_drew1 | refine below_set ?_ GE194.out) | exact HB.out)))); have n1_ := Aside0.mk (blk_below (g := gb194) (o := .cells #[.int .i64 a0_0, .int .i64 a0_1, .slice A0_2 l0_2.length c0_2, .slice A0_3 l0_3.length c0_3, .slice A0_4 l0_4.length c0_4, .slice A0_5 l0_5.length c0_5] 36 (0, 0)) (by (with_reducible repeat (first | refine blk_drewN ?_ _ | refine blk_drew ?_ | refine blk_alloc ?_ _)); exact BK194.out) hb); have n2_ := Aside0.mk (below_step (by repeat (first | (with_reducible first | exact HB.out | apply below_alloc | apply pw_below_drewN | apply below_drew1 | refine below_set ?_ GE194.out) | exact HB.out)) hb); clear BK194; clear HB; have HO197 := n0_; have BK194 := n1_; have HB := n2_; clear n0_ n1_ n2_; clear hb ho30; obtain ⟨Ao31, co31, eo31⟩ := Kd.R_slice HO197.out; subst eo31) | ((with_reducible refine gate_callee (f := 63) rfl ?_); refine goesL_ (some 8) rfl rfl Try.func63 (by kernel_rfl) rfl #[.int .i64 1, .int .i64 1099511627776, .slice Ao31 y195.length co31] rfl (by (try simp only [List.map_toArray, List.map_cons, List.map_nil]); first | done | rfl | (simp only [List.length_drop, List.length_take]; rfl)) ?_; (with_reducible refine (record_between.calls 1 1099511627776 _ _ y195 true _ ?side1 ?side2 A2.out).mono ?_); (case side1 => repeat (first | exact (Kd.R_reads' HO197.out).2.2 | (with_reducible refine Kd.C_alloc ?_ _) | (with_reducible refine Kd.C_drewN ?_ _) | (with_reducible refine Kd.C_drew ?_))); (case side2 => exact (Kd.R_reads' HO197.out).2.1); rintro e w32 ⟨rfl, hb⟩; refine ⟨_, rfl, ?_⟩; have n0_ := Aside0.mk (Kd.R_below (by (with_reducible repeat (first|apply Kd.R_alloc | apply Kd.R_drewN | apply Kd.R_drew)); exact HO197.out) hb); have n1_ := Aside0.mk (blk_below (g := gb194) (o := .cells #[.int .i64 a0_0, .int .i64 a0_1, .slice A0_2 l0_2.length c0_2, .slice A0_3 l0_3.length c0_3, .slice A0_4 l0_4.length c0_4, .slice A0_5 l0_5.length c0_5] 36 (0, 0)) (by (with_reducible repeat (first | refine blk_drewN ?_ _ | refine blk_drew ?_ | refine blk_alloc ?_ _)); exact BK194.out) hb); have n2_ := Aside0.mk (below_step (by repeat (first | (with_reducible first | exact HB.out | apply below_alloc | apply pw_below_drewN | apply below_drew1 | refine below_set ?_ GE194.out) | exact HB.out)) hb); clear HO197; clear BK194; clear HB; have HO197 := n0_; have BK194 := n1_; have HB := n2_; clear n0_ n1_ n2_; (try clear hb); (try clear hb2); (try clear hk); (try clear hi); have hcz33_0 : w32.cell? ⟨gb194, 0, none⟩ = some (.int .i64 a0_0) := (blk_cell BK194.out 0).trans rfl; have hcz33_1 : w32.cell? ⟨gb194, 1, none⟩ = some (.int .i64 a0_1) := (blk_cell BK194.out 1).trans rfl; have hcz33_2 : w32.cell? ⟨gb194, 2, none⟩ = some (.slice A0_2 l0_2.length c0_2) := (blk_cell BK194.out 2).trans rfl; have hcz33_3 : w32.cell? ⟨gb194, 3, none⟩ = some (.slice A0_3 l0_3.length c0_3) := (blk_cell BK194.out 3).trans rfl; have hcz33_4 : w32.cell? ⟨gb194, 4, none⟩ = some (.slice A0_4 l0_4.length c0_4) := (blk_cell BK194.out 4).trans rfl; have hcz33_5 : w32.cell? ⟨gb194, 5, none⟩ = some (.slice A0_5 l0_5.length c0_5) := (blk_cell BK194.out 5).trans rfl; have hfz33_0 := blk_frozen BK194.out 0; have hfz33_1 := blk_frozen BK194.out 1; have hfz33_2 := blk_frozen BK194.out 2; have hfz33_3 := blk_frozen BK194.out 3; have hfz33_4 := blk_frozen BK194.out 4; have hfz33_5 := blk_frozen BK194.out 5))
        go_ret
        exact ⟨by first | rfl | (simp [errW_none, errW_some] <;> rfl) | (simp [*, errW_none, errW_some] <;> rfl), by repeat (first | (with_reducible first | exact HB.out | apply below_alloc | apply pw_below_drewN | apply below_drew1 | refine below_set ?_ GE194.out) | exact HB.out)⟩
    · rw [if_neg c4] at H
      have c4b0 : decide ((l0_2.length : Int) ≤ 512) = false := decide_eq_false c4
      have c4b1 : decide (l0_2.length ≤ 512) = false := decide_eq_false (by omega)
      clear c4
      obtain rfl := Option.some.inj H
      go_enter Try.func38, Try.ntmps38
      go_wp2_with (first | ((with_reducible refine gate_dst (N := 1) rfl ?_); (try (refine gate_guard (by rfl) ?_; dsimp only)); refine box_event ?hg (N := 1) ?hd (cs := #[.int .i64 a0_0, .int .i64 a0_1, .slice A0_2 l0_2.length c0_2, .slice A0_3 l0_3.length c0_3, .slice A0_4 l0_4.length c0_4, .slice A0_5 l0_5.length c0_5]) (t := 36) ?hr ?_; (case hd => rfl); (case hg => rfl); (case hr => first | (go_simp; done) | (go_simp; rfl)); intro gb194 hg w34 hbox hb; have n0_ := Aside0.mk (below_step (by repeat (first | (with_reducible first | exact HB.out | apply below_alloc | apply pw_below_drewN | apply below_drew1) | exact HB.out)) hb); have n1_ := Aside0.mk (hbox); have n2_ := Aside0.mk ((by rw [hg]; exact (below_size (by repeat (first | (with_reducible first | exact HB.out | apply below_alloc | apply pw_below_drewN | apply below_drew1) | exact HB.out))) : w.heap.size ≤ gb194)); have n3_ := Aside0.mk ((by rw [hg]; exact (below_size (by repeat (first | (with_reducible first | exact HB.out | apply below_alloc | apply pw_below_drewN | apply below_drew1) | exact HB.out))) : w.heap.size ≤ gb194)); clear HB; have HB := n0_; have BK194 := n1_; have GW194 := n2_; have GE194 := n3_; clear n0_ n1_ n2_ n3_; clear hb hbox hg; have hcz35_0 : w34.cell? ⟨gb194, 0, none⟩ = some (.int .i64 a0_0) := (blk_cell BK194.out 0).trans rfl; have hcz35_1 : w34.cell? ⟨gb194, 1, none⟩ = some (.int .i64 a0_1) := (blk_cell BK194.out 1).trans rfl; have hcz35_2 : w34.cell? ⟨gb194, 2, none⟩ = some (.slice A0_2 l0_2.length c0_2) := (blk_cell BK194.out 2).trans rfl; have hcz35_3 : w34.cell? ⟨gb194, 3, none⟩ = some (.slice A0_3 l0_3.length c0_3) := (blk_cell BK194.out 3).trans rfl; have hcz35_4 : w34.cell? ⟨gb194, 4, none⟩ = some (.slice A0_4 l0_4.length c0_4) := (blk_cell BK194.out 4).trans rfl; have hcz35_5 : w34.cell? ⟨gb194, 5, none⟩ = some (.slice A0_5 l0_5.length c0_5) := (blk_cell BK194.out 5).trans rfl; have hfz35_0 := blk_frozen BK194.out 0; have hfz35_1 := blk_frozen BK194.out 1; have hfz35_2 := blk_frozen BK194.out 2; have hfz35_3 := blk_frozen BK194.out 3; have hfz35_4 := blk_frozen BK194.out 4; have hfz35_5 := blk_frozen BK194.out 5) | ((with_reducible refine gate_dst (N := 7) rfl ?_); (try (refine gate_guard (by rfl) ?_; dsimp only)); refine Kd.R_lit (Kd.int .i64) _ 2 ?hg (N := 7) ?hd (xs := ([a0_0, a0_1] : List Int)) (inner := [.int .i64 a0_0, .int .i64 a0_1]) (ok := fun _ => True) (okp := fun _ => True) ?hr ?hp (fun _ hk => hk) trivial (Below.refl _ _) (Nat.le_refl _) (by simp) ?_; (case hd => rfl); (case hg => rfl); (case hr => first | (go_simp; done) | (go_simp; rfl)); (case hp => exact (Reps.one (show Kd.M (Kd.int .i64) _ _ _ a0_0 [.int .i64 a0_0] from rfl) (Reps.one (show Kd.M (Kd.int .i64) _ _ _ a0_1 [.int .i64 a0_1] from rfl) (Reps.none _ _)))); intro v196 w36 ho37 hb hg_ hnew_; clear hg_ hnew_; (first | rw [← Ny195.out] at ho37 | (simp only [Int.reduceToNat] at ho37; rw [← Ny195.out] at ho37)); have n0_ := Aside0.mk (Kd.R_lower ho37 (below_size (by repeat (first | (with_reducible first | exact HB.out | apply below_alloc | apply pw_below_drewN | apply below_drew1 | refine below_set ?_ GE194.out) | exact HB.out)))); have n1_ := Aside0.mk (blk_below (g := gb194) (o := .cells #[.int .i64 a0_0, .int .i64 a0_1, .slice A0_2 l0_2.length c0_2, .slice A0_3 l0_3.length c0_3, .slice A0_4 l0_4.length c0_4, .slice A0_5 l0_5.length c0_5] 36 (0, 0)) (by (with_reducible repeat (first | refine blk_drewN ?_ _ | refine blk_drew ?_ | refine blk_alloc ?_ _)); exact BK194.out) hb); have n2_ := Aside0.mk (below_step (by repeat (first | (with_reducible first | exact HB.out | apply below_alloc | apply pw_below_drewN | apply below_drew1 | refine below_set ?_ GE194.out) | exact HB.out)) hb); clear BK194; clear HB; have HO197 := n0_; have BK194 := n1_; have HB := n2_; clear n0_ n1_ n2_; clear hb ho37; obtain ⟨Ao38, co38, eo38⟩ := Kd.R_slice HO197.out; subst eo38) | ((with_reducible refine gate_callee (f := 63) rfl ?_); refine goesL_ (some 8) rfl rfl Try.func63 (by kernel_rfl) rfl #[.int .i64 1, .int .i64 1099511627776, .slice Ao38 y195.length co38] rfl (by (try simp only [List.map_toArray, List.map_cons, List.map_nil]); first | done | rfl | (simp only [List.length_drop, List.length_take]; rfl)) ?_; (with_reducible refine (record_between.calls 1 1099511627776 _ _ y195 true _ ?side1 ?side2 A2.out).mono ?_); (case side1 => repeat (first | exact (Kd.R_reads' HO197.out).2.2 | (with_reducible refine Kd.C_alloc ?_ _) | (with_reducible refine Kd.C_drewN ?_ _) | (with_reducible refine Kd.C_drew ?_))); (case side2 => exact (Kd.R_reads' HO197.out).2.1); rintro e w39 ⟨rfl, hb⟩; refine ⟨_, rfl, ?_⟩; have n0_ := Aside0.mk (Kd.R_below (by (with_reducible repeat (first|apply Kd.R_alloc | apply Kd.R_drewN | apply Kd.R_drew)); exact HO197.out) hb); have n1_ := Aside0.mk (blk_below (g := gb194) (o := .cells #[.int .i64 a0_0, .int .i64 a0_1, .slice A0_2 l0_2.length c0_2, .slice A0_3 l0_3.length c0_3, .slice A0_4 l0_4.length c0_4, .slice A0_5 l0_5.length c0_5] 36 (0, 0)) (by (with_reducible repeat (first | refine blk_drewN ?_ _ | refine blk_drew ?_ | refine blk_alloc ?_ _)); exact BK194.out) hb); have n2_ := Aside0.mk (below_step (by repeat (first | (with_reducible first | exact HB.out | apply below_alloc | apply pw_below_drewN | apply below_drew1 | refine below_set ?_ GE194.out) | exact HB.out)) hb); clear HO197; clear BK194; clear HB; have HO197 := n0_; have BK194 := n1_; have HB := n2_; clear n0_ n1_ n2_; (try clear hb); (try clear hb2); (try clear hk); (try clear hi); have hcz40_0 : w39.cell? ⟨gb194, 0, none⟩ = some (.int .i64 a0_0) := (blk_cell BK194.out 0).trans rfl; have hcz40_1 : w39.cell? ⟨gb194, 1, none⟩ = some (.int .i64 a0_1) := (blk_cell BK194.out 1).trans rfl; have hcz40_2 : w39.cell? ⟨gb194, 2, none⟩ = some (.slice A0_2 l0_2.length c0_2) := (blk_cell BK194.out 2).trans rfl; have hcz40_3 : w39.cell? ⟨gb194, 3, none⟩ = some (.slice A0_3 l0_3.length c0_3) := (blk_cell BK194.out 3).trans rfl; have hcz40_4 : w39.cell? ⟨gb194, 4, none⟩ = some (.slice A0_4 l0_4.length c0_4) := (blk_cell BK194.out 4).trans rfl; have hcz40_5 : w39.cell? ⟨gb194, 5, none⟩ = some (.slice A0_5 l0_5.length c0_5) := (blk_cell BK194.out 5).trans rfl; have hfz40_0 := blk_frozen BK194.out 0; have hfz40_1 := blk_frozen BK194.out 1; have hfz40_2 := blk_frozen BK194.out 2; have hfz40_3 := blk_frozen BK194.out 3; have hfz40_4 := blk_frozen BK194.out 4; have hfz40_5 := blk_frozen BK194.out 5))
      go_ret
      exact ⟨by first | rfl | (simp [errW_none, errW_some] <;> rfl) | (simp [*, errW_none, errW_some] <;> rfl), by repeat (first | (with_reducible first | exact HB.out | apply below_alloc | apply pw_below_drewN | apply below_drew1 | refine below_set ?_ GE194.out) | exact HB.out)⟩
  · replace c3 := Bool.eq_false_iff.mpr c3
    subst c3
    have H1 : (some false) = some r := by rw [if_neg (show ¬ (false = true) by decide)] at H; exact H
    clear H
    have H := H1
    clear H1
    obtain rfl := Option.some.inj H
    go_enter Try.func38, Try.ntmps38
    go_wp2_with (first | ((with_reducible refine gate_dst (N := 1) rfl ?_); (try (refine gate_guard (by rfl) ?_; dsimp only)); refine box_event ?hg (N := 1) ?hd (cs := #[.int .i64 a0_0, .int .i64 a0_1, .slice A0_2 l0_2.length c0_2, .slice A0_3 l0_3.length c0_3, .slice A0_4 l0_4.length c0_4, .slice A0_5 l0_5.length c0_5]) (t := 36) ?hr ?_; (case hd => rfl); (case hg => rfl); (case hr => first | (go_simp; done) | (go_simp; rfl)); intro gb194 hg w41 hbox hb; have n0_ := Aside0.mk (below_step (by repeat (first | (with_reducible first | exact HB.out | apply below_alloc | apply pw_below_drewN | apply below_drew1) | exact HB.out)) hb); have n1_ := Aside0.mk (hbox); have n2_ := Aside0.mk ((by rw [hg]; exact (below_size (by repeat (first | (with_reducible first | exact HB.out | apply below_alloc | apply pw_below_drewN | apply below_drew1) | exact HB.out))) : w.heap.size ≤ gb194)); have n3_ := Aside0.mk ((by rw [hg]; exact (below_size (by repeat (first | (with_reducible first | exact HB.out | apply below_alloc | apply pw_below_drewN | apply below_drew1) | exact HB.out))) : w.heap.size ≤ gb194)); clear HB; have HB := n0_; have BK194 := n1_; have GW194 := n2_; have GE194 := n3_; clear n0_ n1_ n2_ n3_; clear hb hbox hg; have hcz42_0 : w41.cell? ⟨gb194, 0, none⟩ = some (.int .i64 a0_0) := (blk_cell BK194.out 0).trans rfl; have hcz42_1 : w41.cell? ⟨gb194, 1, none⟩ = some (.int .i64 a0_1) := (blk_cell BK194.out 1).trans rfl; have hcz42_2 : w41.cell? ⟨gb194, 2, none⟩ = some (.slice A0_2 l0_2.length c0_2) := (blk_cell BK194.out 2).trans rfl; have hcz42_3 : w41.cell? ⟨gb194, 3, none⟩ = some (.slice A0_3 l0_3.length c0_3) := (blk_cell BK194.out 3).trans rfl; have hcz42_4 : w41.cell? ⟨gb194, 4, none⟩ = some (.slice A0_4 l0_4.length c0_4) := (blk_cell BK194.out 4).trans rfl; have hcz42_5 : w41.cell? ⟨gb194, 5, none⟩ = some (.slice A0_5 l0_5.length c0_5) := (blk_cell BK194.out 5).trans rfl; have hfz42_0 := blk_frozen BK194.out 0; have hfz42_1 := blk_frozen BK194.out 1; have hfz42_2 := blk_frozen BK194.out 2; have hfz42_3 := blk_frozen BK194.out 3; have hfz42_4 := blk_frozen BK194.out 4; have hfz42_5 := blk_frozen BK194.out 5) | ((with_reducible refine gate_dst (N := 7) rfl ?_); (try (refine gate_guard (by rfl) ?_; dsimp only)); refine Kd.R_lit (Kd.int .i64) _ 2 ?hg (N := 7) ?hd (xs := ([a0_0, a0_1] : List Int)) (inner := [.int .i64 a0_0, .int .i64 a0_1]) (ok := fun _ => True) (okp := fun _ => True) ?hr ?hp (fun _ hk => hk) trivial (Below.refl _ _) (Nat.le_refl _) (by simp) ?_; (case hd => rfl); (case hg => rfl); (case hr => first | (go_simp; done) | (go_simp; rfl)); (case hp => exact (Reps.one (show Kd.M (Kd.int .i64) _ _ _ a0_0 [.int .i64 a0_0] from rfl) (Reps.one (show Kd.M (Kd.int .i64) _ _ _ a0_1 [.int .i64 a0_1] from rfl) (Reps.none _ _)))); intro v196 w43 ho44 hb hg_ hnew_; clear hg_ hnew_; (first | rw [← Ny195.out] at ho44 | (simp only [Int.reduceToNat] at ho44; rw [← Ny195.out] at ho44)); have n0_ := Aside0.mk (Kd.R_lower ho44 (below_size (by repeat (first | (with_reducible first | exact HB.out | apply below_alloc | apply pw_below_drewN | apply below_drew1 | refine below_set ?_ GE194.out) | exact HB.out)))); have n1_ := Aside0.mk (blk_below (g := gb194) (o := .cells #[.int .i64 a0_0, .int .i64 a0_1, .slice A0_2 l0_2.length c0_2, .slice A0_3 l0_3.length c0_3, .slice A0_4 l0_4.length c0_4, .slice A0_5 l0_5.length c0_5] 36 (0, 0)) (by (with_reducible repeat (first | refine blk_drewN ?_ _ | refine blk_drew ?_ | refine blk_alloc ?_ _)); exact BK194.out) hb); have n2_ := Aside0.mk (below_step (by repeat (first | (with_reducible first | exact HB.out | apply below_alloc | apply pw_below_drewN | apply below_drew1 | refine below_set ?_ GE194.out) | exact HB.out)) hb); clear BK194; clear HB; have HO197 := n0_; have BK194 := n1_; have HB := n2_; clear n0_ n1_ n2_; clear hb ho44; obtain ⟨Ao45, co45, eo45⟩ := Kd.R_slice HO197.out; subst eo45) | ((with_reducible refine gate_callee (f := 63) rfl ?_); refine goesL_ (some 8) rfl rfl Try.func63 (by kernel_rfl) rfl #[.int .i64 1, .int .i64 1099511627776, .slice Ao45 y195.length co45] rfl (by (try simp only [List.map_toArray, List.map_cons, List.map_nil]); first | done | rfl | (simp only [List.length_drop, List.length_take]; rfl)) ?_; (with_reducible refine (record_between.calls 1 1099511627776 _ _ y195 false _ ?side1 ?side2 A2.out).mono ?_); (case side1 => repeat (first | exact (Kd.R_reads' HO197.out).2.2 | (with_reducible refine Kd.C_alloc ?_ _) | (with_reducible refine Kd.C_drewN ?_ _) | (with_reducible refine Kd.C_drew ?_))); (case side2 => exact (Kd.R_reads' HO197.out).2.1); rintro e w46 ⟨rfl, hb⟩; refine ⟨_, rfl, ?_⟩; have n0_ := Aside0.mk (Kd.R_below (by (with_reducible repeat (first|apply Kd.R_alloc | apply Kd.R_drewN | apply Kd.R_drew)); exact HO197.out) hb); have n1_ := Aside0.mk (blk_below (g := gb194) (o := .cells #[.int .i64 a0_0, .int .i64 a0_1, .slice A0_2 l0_2.length c0_2, .slice A0_3 l0_3.length c0_3, .slice A0_4 l0_4.length c0_4, .slice A0_5 l0_5.length c0_5] 36 (0, 0)) (by (with_reducible repeat (first | refine blk_drewN ?_ _ | refine blk_drew ?_ | refine blk_alloc ?_ _)); exact BK194.out) hb); have n2_ := Aside0.mk (below_step (by repeat (first | (with_reducible first | exact HB.out | apply below_alloc | apply pw_below_drewN | apply below_drew1 | refine below_set ?_ GE194.out) | exact HB.out)) hb); clear HO197; clear BK194; clear HB; have HO197 := n0_; have BK194 := n1_; have HB := n2_; clear n0_ n1_ n2_; (try clear hb); (try clear hb2); (try clear hk); (try clear hi)))
    go_ret
    exact ⟨by first | rfl | (simp [errW_none, errW_some] <;> rfl) | (simp [*, errW_none, errW_some] <;> rfl), by repeat (first | (with_reducible first | exact HB.out | apply below_alloc | apply pw_below_drewN | apply below_drew1 | refine below_set ?_ GE194.out) | exact HB.out)⟩
end Go.Proofs.Ytgiefblcckikeaa.G
end

section

/- record.SameEntry. -/
set_option maxRecDepth 100000
set_option linter.unusedVariables false
set_option linter.unusedSimpArgs false
namespace Go.Proofs.Ytgiefblcckikeaa.M
open Go.RowKit Go.Proofs.YtgiefblcckikeaaW.PrintWords Go.Proofs.YtgiefblcckikeaaW.PrintLast Go.Proofs.YtgiefblcckikeaaW.PrintMore Go.Proofs.Ytgiefblcckikeaa.G
structure TxAt (w : World) (p : Addr) (x : TxD) (A2 : Option Addr) (c2 : Nat) (A3 : Option Addr) (c3 : Nat) (A4 : Option Addr) (c4 : Nat) (A5 : Option Addr) (c5 : Nat) : Prop where
  e0 : w.cell? p = some (.int .i64 x.f0)
  e1 : w.cell? ⟨p.block, p.off + 1, none⟩ = some (.int .i64 x.f1)
  e2 : w.cell? ⟨p.block, p.off + 2, none⟩ = some (.slice A2 x.f2.length c2)
  e3 : w.cell? ⟨p.block, p.off + 3, none⟩ = some (.slice A3 x.f3.length c3)
  e4 : w.cell? ⟨p.block, p.off + 4, none⟩ = some (.slice A4 x.f4.length c4)
  e5 : w.cell? ⟨p.block, p.off + 5, none⟩ = some (.slice A5 x.f5.length c5)
structure TxC (w : World) (x : TxD) (A2 : Option Addr) (c2 : Nat) (A3 : Option Addr) (c3 : Nat) (A4 : Option Addr) (c4 : Nat) (A5 : Option Addr) (c5 : Nat) : Prop where
  l2 : x.f2.length ≤ c2
  g2 : (Kd.int .u8).C w A2 x.f2.length x.f2
  l3 : x.f3.length ≤ c3
  g3 : (Kd.int .i64).C w A3 x.f3.length x.f3
  l4 : x.f4.length ≤ c4
  g4 : G.k93.C w A4 x.f4.length x.f4
  l5 : x.f5.length ≤ c5
  g5 : G.k93.C w A5 x.f5.length x.f5
theorem TxC.below {w w' : World} {x : TxD} {A2 A3 A4 A5 : Option Addr} {c2 c3 c4 c5 : Nat} (h : TxC w x A2 c2 A3 c3 A4 c4 A5 c5) (hb : Below w.heap.size w w') : TxC w' x A2 c2 A3 c3 A4 c4 A5 c5 :=
  ⟨h.l2, Kd.C_below h.g2 hb, h.l3, Kd.C_below h.g3 hb, h.l4, Kd.C_below h.g4 hb, h.l5, Kd.C_below h.g5 hb⟩
theorem TxC.le {w : World} {x : TxD} {A2 A3 A4 A5 : Option Addr} {c2 c3 c4 c5 : Nat} (h : TxC w x A2 c2 A3 c3 A4 c4 A5 c5) : TxLe x 9223372036854775807 := ⟨h.g2.2.1, h.g3.2.1, h.g4.2.1, h.g5.2.1⟩
theorem tx_get {w : World} {A : Option Addr} {n : Nat} {l : List TxD} (h : Kd.C G.k36 w A n l) {k : Nat} {x : TxD} (hk : l[k]? = some x) :
    ∃ ad A2 c2 A3 c3 A4 c4 A5 c5, A = some ad ∧ TxAt w (ad.add (k * 6)) x A2 c2 A3 c3 A4 c4 A5 c5 ∧ TxC w x A2 c2 A3 c3 A4 c4 A5 c5 := by
  have hlt : k < n := by
    have := (List.getElem?_eq_some_iff.1 hk).1
    have := h.1
    omega
  obtain ⟨ad, A2, c2, A3, c3, A4, c4, A5, c5, rfl, h0, h1, h2, h3, h4, h5, l2, g2, l3, g3, l4, g4, l5, g5⟩ := G.at_T36 h (k : Int) (by omega) (by omega)
  have e : G.rd_T36 l (k : Int) = x := by unfold G.rd_T36; rw [Int.toNat_natCast, List.getD_eq_getElem?_getD, hk]; rfl
  rw [e] at h0 h1 h2 h3 h4 h5 l2 g2 l3 g3 l4 g4 l5 g5
  rw [Int.toNat_natCast] at h0 h1 h2 h3 h4 h5
  exact ⟨ad, A2, c2, A3, c3, A4, c4, A5, c5, rfl, ⟨h0, h1, h2, h3, h4, h5⟩, ⟨l2, g2, l3, g3, l4, g4, l5, g5⟩⟩
theorem sameTx_is {w : World} (a b : TxD) {A2 A3 A4 A5 B2 B3 B4 B5 : Option Addr} {c2 c3 c4 c5 d2 d3 d4 d5 : Nat} (ha : TxC w a A2 c2 A3 c3 A4 c4 A5 c5) (hb : TxC w b B2 d2 B3 d3 B4 d4 B5 d5) :
    Calls Try.prog 23 #[.agg #[.int .i64 a.f0, .int .i64 a.f1, .slice A2 a.f2.length c2, .slice A3 a.f3.length c3, .slice A4 a.f4.length c4, .slice A5 a.f5.length c5], .agg #[.int .i64 b.f0, .int .i64 b.f1, .slice B2 b.f2.length d2, .slice B3 b.f3.length d3, .slice B4 b.f4.length d4, .slice B5 b.f5.length d5]] w fun e w' => e = .returned (.bool (eqTx a b)) ∧ Below w.heap.size w w' :=
  G.record_SameTxn.calls (a.f3.length + a.f4.length + a.f5.length + 1) a.f0 a.f1 A2 c2 a.f2 A3 c3 a.f3 A4 c4 a.f4 A5 c5 a.f5 b.f0 b.f1 B2 d2 b.f2 B3 d3 b.f3 B4 d4 b.f4 B5 d5 b.f5 _ w ha.g2 ha.l2 ha.g3 ha.l3 ha.g4 ha.l4 ha.g5 ha.l5 hb.g2 hb.l2 hb.g3 hb.l3 hb.g4 hb.l4 hb.g5 hb.l5 (sameTxn_p _ a b ha.le ⟨by omega, by omega, by omega⟩)
theorem eqTs_take {a b : List TxD} {i : Nat} {x y : TxD} (hx : a[i]? = some x) (hy : b[i]? = some y) : eqTs (a.drop i) (b.drop i) = (eqTx x y && eqTs (a.drop (i + 1)) (b.drop (i + 1))) := by
  rw [drop_cons hx, drop_cons hy]; rfl
def EqI (a b : List TxD) (w : World) (i : Value) (wr : World) : Prop := ∃ k : Nat, i = .int .i64 k ∧ k ≤ a.length ∧ eqTs a b = eqTs (a.drop k) (b.drop k) ∧ Below w.heap.size w wr
set_option maxHeartbeats 1000000 in
theorem eqfunc_is (A B : Option Addr) (c d : Nat) (a b : List TxD) (w : World) (ha : Kd.C G.k36 w A a.length a) (hb : Kd.C G.k36 w B b.length b) :
    Calls Try.prog 57 #[.slice A a.length c, .slice B b.length d, .func (.func 23) #[] #[]] w fun e w' => e = .returned (.bool (eqTs a b)) ∧ Below w.heap.size w w' := by
  have hlm : a.length ≤ 9223372036854775807 := ha.2.1
  have HA := Lib.hid ha; have HB := Lib.hid hb
  clear ha hb
  by_cases hl : a.length = b.length
  · have hlb : ((a.length : Int) != (b.length : Int)) = false := by rw [bne_eq_false_iff_eq]; omega
    have HL := Lib.hid hl
    clear hl
    go_enter Try.func57, Try.ntmps57
    go_wp2_with fail
    go_loopw [17] (fun i wr => EqI a b w i wr) (fun i _ => a.length - (intOf i).toNat)
    case atStart => exact ⟨0, rfl, Nat.zero_le _, rfl, Below.refl _ _⟩
    case round =>
      obtain ⟨k, rfl, hk, he, hb⟩ := hrel
      have HE := Lib.hid he; have HBr := Lib.hid hb
      clear he hb
      by_cases hlt : k < a.length
      · obtain ⟨x, hx⟩ : ∃ x, a[k]? = some x := ⟨_, List.getElem?_eq_getElem hlt⟩
        obtain ⟨y, hy⟩ : ∃ y, b[k]? = some y := ⟨_, List.getElem?_eq_getElem (by have := HL.out; omega)⟩
        obtain ⟨ad, A2, c2, A3, c3, A4, c4, A5, c5, rfl, ⟨x0, x1, x2, x3, x4, x5⟩, hX⟩ := tx_get (Kd.C_below HA.out HBr.out) hx
        obtain ⟨bd, B2, d2, B3, d3, B4, d4, B5, d5, rfl, ⟨y0, y1, y2, y3, y4, y5⟩, hY⟩ := tx_get (Kd.C_below HB.out HBr.out) hy
        have HXX := Lib.hid hX; have HYY := Lib.hid hY
        have HS := Lib.hid (eqTs_take hx hy)
        have hkb : k < b.length := by have := HL.out; omega
        clear hX hY hx hy
        have zb : (bd.add (k * 6)).block < wr.heap.size := World.block_lt_of_cell? _ _ y0
        go_wp2_with fail
        have HB2 := Lib.hid (show Below wr.heap.size wr ((wr.alloc (.cells #[.int .i64 x.f0, .int .i64 x.f1, .slice A2 x.f2.length c2, .slice A3 x.f3.length c3, .slice A4 x.f4.length c4, .slice A5 x.f5.length c5] 36)).alloc (.cells #[.int .i64 y.f0, .int .i64 y.f1, .slice B2 y.f2.length d2, .slice B3 y.f3.length d3, .slice B4 y.f4.length d4, .slice B5 y.f5.length d5] 36)) from ((Below.refl _ _).alloc (Nat.le_refl _) _).alloc (by simp) _)
        refine (sameTx_is x y (HXX.out.below HB2.out) (HYY.out.below HB2.out)).mono ?_
        rintro e w' ⟨rfl, hb⟩
        have HB3 := Lib.hid (HBr.out.trans ((HB2.out.trans (hb.mono HB2.out.size)).mono HBr.out.size))
        clear hb x0 x1 x2 x3 x4 x5 y0 y1 y2 y3 y4 y5 zb
        obtain ⟨q, hq⟩ : ∃ q, eqTx x y = q := ⟨_, rfl⟩
        have HQ := Lib.hid hq
        rw [hq]
        clear hq
        cases q with
        | true =>
          go_wp2_with fail
          go_roundw
          case rel => exact ⟨k + 1, by go_num, hlt, by rw [HE.out, HS.out, HQ.out, Bool.true_and], HB3.out⟩
          case measure => simp [intOf]; omega
        | false =>
          go_wp2_with fail
          go_ret
          exact ⟨by rw [HE.out, HS.out, HQ.out]; rfl, HB3.out⟩
      · have HF := Lib.hid (show eqTs a b = true by rw [HE.out, List.drop_of_length_le (by omega), List.drop_of_length_le (by have := HL.out; omega)]; rfl)
        go_wp2_with fail
        go_ret
        exact ⟨by rw [HF.out]; rfl, HBr.out⟩
  · have hlb : ((a.length : Int) != (b.length : Int)) = true := by rw [bne_iff_ne]; omega
    have HF := Lib.hid (eqTs_len hl)
    clear hl
    go_enter Try.func57, Try.ntmps57
    go_wp2_with fail
    go_ret
    exact ⟨by rw [HF.out]; rfl, Below.refl _ _⟩
set_option maxHeartbeats 1000000 in
theorem sameEn_is (k f n : Int) (A : Option Addr) (c : Nat) (l : List TxD) (k' f' n' : Int) (A' : Option Addr) (c' : Nat) (l' : List TxD) (w : World) (ha : Kd.C G.k36 w A l.length l) (hb : Kd.C G.k36 w A' l'.length l') :
    Calls Try.prog 25 #[.agg #[.int .i64 k, .int .i64 f, .int .i64 n, .slice A l.length c], .agg #[.int .i64 k', .int .i64 f', .int .i64 n', .slice A' l'.length c']] w fun e w' => e = .returned (.bool (eqEn k f n l k' f' n' l')) ∧ Below w.heap.size w w' := by
  obtain ⟨q, hq⟩ : ∃ q, eqEn k f n l k' f' n' l' = q := ⟨_, rfl⟩
  have HQ := Lib.hid hq
  rw [hq]
  clear hq
  have HB := Lib.hid (show Below w.heap.size w ((w.alloc (.cells #[.int .i64 k, .int .i64 f, .int .i64 n, .slice A l.length c] 24)).alloc (.cells #[.int .i64 k', .int .i64 f', .int .i64 n', .slice A' l'.length c'] 24)) from ((Below.refl _ _).alloc (Nat.le_refl _) _).alloc (by simp) _)
  have HE := Lib.hid (eqfunc_is A A' c c' l l' _ (Kd.C_below ha HB.out) (Kd.C_below hb HB.out))
  clear ha hb
  cases h0 : (k == k') with
  | false =>
    have HV := Lib.hid (show q = false by rw [← HQ.out]; unfold eqEn; rw [h0, Bool.false_and])
    go_enter Try.func25, Try.ntmps25
    go_wp2_with fail
    go_ret
    exact ⟨by rw [HV.out]; rfl, HB.out⟩
  | true =>
    cases h1 : (f == f') with
    | false =>
      have HV := Lib.hid (show q = false by rw [← HQ.out]; unfold eqEn; rw [h1, Bool.false_and, Bool.and_false])
      go_enter Try.func25, Try.ntmps25
      go_wp2_with fail
      go_ret
      exact ⟨by rw [HV.out]; rfl, HB.out⟩
    | true =>
      cases h2 : (n == n') with
      | false =>
        have HV := Lib.hid (show q = false by rw [← HQ.out]; unfold eqEn; rw [h2, Bool.false_and, Bool.and_false, Bool.and_false])
        go_enter Try.func25, Try.ntmps25
        go_wp2_with fail
        go_ret
        exact ⟨by rw [HV.out]; rfl, HB.out⟩
      | true =>
        have HV := Lib.hid (show q = eqTs l l' by rw [← HQ.out]; unfold eqEn; rw [h0, h1, h2, Bool.true_and, Bool.true_and, Bool.true_and])
        go_enter Try.func25, Try.ntmps25
        go_wp2_with fail
        refine HE.out.mono ?_
        rintro e w' ⟨rfl, hb⟩
        have HB2 := Lib.hid (HB.out.trans (hb.mono HB.out.size))
        clear hb
        go_wp2_with fail
        go_ret
        exact ⟨by rw [HV.out]; rfl, HB2.out⟩
end Go.Proofs.Ytgiefblcckikeaa.M
namespace Go.Proofs.Ytgiefblcckikeaa.G
open Go.RowKit Go.Proofs.YtgiefblcckikeaaW.PrintWords Go.Proofs.Ytgiefblcckikeaa.M
def record_SameEntry.f (a0_0 a0_1 a0_2 : Int) (l0_3 : List S36) (a1_0 a1_1 a1_2 : Int) (l1_3 : List S36) : Option Bool := some (eqEn a0_0 a0_1 a0_2 l0_3 a1_0 a1_1 a1_2 l1_3)
theorem record_SameEntry.calls (a0_0 a0_1 a0_2 : Int) (A0_3 : Option Addr) (c0_3 : Nat) (l0_3 : List S36) (a1_0 a1_1 a1_2 : Int) (A1_3 : Option Addr) (c1_3 : Nat) (l1_3 : List S36) (r : Bool) (w : World) (hr0_3 : Kd.C k36 w A0_3 l0_3.length l0_3) (hc0_3 : l0_3.length ≤ c0_3) (hr1_3 : Kd.C k36 w A1_3 l1_3.length l1_3) (hc1_3 : l1_3.length ≤ c1_3) (h : record_SameEntry.f a0_0 a0_1 a0_2 l0_3 a1_0 a1_1 a1_2 l1_3 = some r) :
    Calls Try.prog 25 #[.agg #[.int .i64 a0_0, .int .i64 a0_1, .int .i64 a0_2, .slice A0_3 l0_3.length c0_3], .agg #[.int .i64 a1_0, .int .i64 a1_1, .int .i64 a1_2, .slice A1_3 l1_3.length c1_3]] w fun e w' => e = .returned (.bool r) ∧ Below w.heap.size w w' := by
  obtain rfl := Option.some.inj h
  exact sameEn_is a0_0 a0_1 a0_2 A0_3 c0_3 l0_3 a1_0 a1_1 a1_2 A1_3 c1_3 l1_3 w hr0_3 hr1_3
end Go.Proofs.Ytgiefblcckikeaa.G
end

section

/- record.entry: which entries may be. -/
set_option maxRecDepth 100000
set_option linter.unusedVariables false
set_option linter.unusedSimpArgs false
namespace Go.Proofs.Ytgiefblcckikeaa.M
open Go.RowKit Go.Proofs.YtgiefblcckikeaaW.PrintWords Go.Proofs.YtgiefblcckikeaaW.PrintLast Go.Proofs.YtgiefblcckikeaaW.PrintMore Go.Proofs.Ytgiefblcckikeaa.G
theorem C_lit (w : World) (xs : List Int) (hm : xs.length ≤ 1000) : Kd.C (Kd.int .i64) (w.alloc (.cells (xs.map (Value.int .i64)).toArray 2)) (some ⟨w.heap.size, 0, none⟩) xs.length xs := by
  have h : Kd.R (Kd.int .i64) 2 (w.alloc (.cells (xs.map (Value.int .i64)).toArray 2)) w.heap.size (fun _ => True) (.slice (some ⟨w.heap.size, 0, none⟩) xs.length xs.length) xs :=
    Kd.R_of_own (own_lit w w.heap.size 2 .i64 xs (Nat.le_refl _) (by omega)) (fun _ _ => trivial)
  exact (Kd.R_reads' h).2.2
def mayT (t : TxD) : Bool := inB 1 1099511627776 [t.f0, t.f1] && (decide (t.f2.length ≤ 512) && (decide (t.f3.length ≤ 8) && (mayK t.f4 && mayK t.f5)))
def mayE (k f n : Int) (l : List TxD) : Bool := if k = 0 then eqEn k f n l 0 0 0 [] else (k == 1 && (inB 0 4 [f] && (inB 0 1099511627776 [n] && (inB 1 16 [(l.length : Int)] && l.all mayT))))
theorem record_txn_f (t : TxD) : G.record_txn.f t.f0 t.f1 t.f2 t.f3 t.f4 t.f5 = some (mayT t) := by
  unfold G.record_txn.f mayT G.record_between.f G.record_keys.f
  simp only [Option.bind_some]
  cases h1 : inB 1 1099511627776 [t.f0, t.f1]
  · simp
  · by_cases h2 : t.f2.length ≤ 512
    · by_cases h3 : t.f3.length ≤ 8
      · rw [if_pos rfl, if_pos (by omega), if_pos (by omega)]
        cases h4 : mayK t.f4 <;> simp [h2, h3]
      · rw [if_pos rfl, if_pos (by omega), if_neg (by omega)]
        simp [h3]
    · rw [if_pos rfl, if_neg (by omega)]
      simp [h2]
theorem mayTx_is {w : World} (a : TxD) {A2 A3 A4 A5 : Option Addr} {c2 c3 c4 c5 : Nat} (ha : TxC w a A2 c2 A3 c3 A4 c4 A5 c5) :
    Calls Try.prog 38 #[.agg #[.int .i64 a.f0, .int .i64 a.f1, .slice A2 a.f2.length c2, .slice A3 a.f3.length c3, .slice A4 a.f4.length c4, .slice A5 a.f5.length c5]] w fun e w' => e = .returned (.bool (mayT a)) ∧ Below w.heap.size w w' :=
  G.record_txn.calls a.f0 a.f1 A2 c2 a.f2 A3 c3 a.f3 A4 c4 a.f4 A5 c5 a.f5 _ w ha.g2 ha.l2 ha.g3 ha.l3 ha.g4 ha.l4 ha.g5 ha.l5 (record_txn_f a)
theorem entry1_is {w : World} (a : TxD) {A2 A3 A4 A5 : Option Addr} {c2 c3 c4 c5 : Nat} (ha : TxC w a A2 c2 A3 c3 A4 c4 A5 c5) :
    Calls Try.prog 67 #[.agg #[.int .i64 a.f0, .int .i64 a.f1, .slice A2 a.f2.length c2, .slice A3 a.f3.length c3, .slice A4 a.f4.length c4, .slice A5 a.f5.length c5]] w fun e w' => e = .returned (.bool (!mayT a)) ∧ Below w.heap.size w w' := by
  have HB := Lib.hid (show Below w.heap.size w (w.alloc (.cells #[.int .i64 a.f0, .int .i64 a.f1, .slice A2 a.f2.length c2, .slice A3 a.f3.length c3, .slice A4 a.f4.length c4, .slice A5 a.f5.length c5] 36)) from (Below.refl _ _).alloc (Nat.le_refl _) _)
  have HA := Lib.hid (ha.below HB.out)
  clear ha
  go_enter Try.func67, Try.ntmps67
  go_wp2_with fail
  refine (mayTx_is a HA.out).mono ?_
  rintro e w' ⟨rfl, hb⟩
  have HB2 := Lib.hid (HB.out.trans (hb.mono HB.out.size))
  clear hb
  go_wp2_with fail
  go_ret
  exact ⟨by simp, HB2.out⟩
def TxV (l : List TxD) (w : World) (e : Ending) (w' : World) : Prop := ∃ i : Int, e = .returned (.int .i64 i) ∧ (0 ≤ i ↔ l.all mayT = false) ∧ Below w.heap.size w w'
def TxI (l : List TxD) (w : World) (i : Value) (wr : World) : Prop := ∃ k : Nat, k ≤ l.length ∧ i = .int .i64 k ∧ (l.take k).all mayT = true ∧ Below w.heap.size w wr
set_option maxHeartbeats 1000000 in
theorem tx_index (A : Option Addr) (c : Nat) (l : List TxD) (w : World) (hr : Kd.C G.k36 w A l.length l) :
    Calls Try.prog 90 #[.slice A l.length c, .func (.func 67) #[] #[]] w fun e w' => TxV l w e w' := by
  have hlm : l.length ≤ 9223372036854775807 := hr.2.1
  have HR := Lib.hid hr
  clear hr
  go_enter Try.func90, Try.ntmps90
  go_wp2_with fail
  go_loopw [8] (fun i wr => TxI l w i wr) (fun i _ => l.length - (intOf i).toNat)
  case atStart => exact ⟨0, Nat.zero_le _, rfl, by simp, Below.refl _ _⟩
  case round =>
    obtain ⟨k, hk, rfl, hin, hb⟩ := hrel
    have HIN := Lib.hid hin; have HBr := Lib.hid hb
    clear hin hb
    by_cases hlt : k < l.length
    · obtain ⟨x, hx⟩ : ∃ x, l[k]? = some x := ⟨_, List.getElem?_eq_getElem hlt⟩
      obtain ⟨ad, A2, c2, A3, c3, A4, c4, A5, c5, rfl, ⟨x0, x1, x2, x3, x4, x5⟩, hX⟩ := tx_get (Kd.C_below HR.out HBr.out) hx
      have HXX := Lib.hid hX
      have HX := Lib.hid (show l.take (k + 1) = l.take k ++ [x] by rw [List.take_add_one, hx]; rfl)
      have HM := Lib.hid (List.mem_of_getElem? hx)
      clear hx hX
      go_wp2_with fail
      refine (entry1_is x HXX.out).mono ?_
      rintro e w' ⟨rfl, hb⟩
      have HB2 := Lib.hid (HBr.out.trans (hb.mono HBr.out.size))
      clear hb
      cases ho : mayT x with
      | false =>
        have HB := Lib.hid (show l.all mayT = false by rw [List.all_eq_false]; exact ⟨x, HM.out, by rw [ho]; simp⟩)
        clear ho
        go_wp2_with fail
        go_ret
        exact ⟨k, rfl, ⟨fun _ => HB.out, fun _ => by omega⟩, HB2.out⟩
      | true =>
        have HB := Lib.hid (show (l.take (k + 1)).all mayT = true by rw [HX.out, List.all_append, HIN.out]; simp [ho])
        clear ho
        go_wp2_with fail
        go_roundw
        case rel => exact ⟨k + 1, hlt, by go_num, HB.out, HB2.out⟩
        case measure => simp [intOf]; omega
    · have HB := Lib.hid (show l.all mayT = true by have := HIN.out; rwa [List.take_of_length_le (by omega)] at this)
      go_wp2_with fail
      go_ret
      exact ⟨-1, rfl, ⟨fun h => by omega, fun h => by rw [HB.out] at h; cases h⟩, HBr.out⟩
theorem tx_has (A : Option Addr) (c : Nat) (l : List TxD) (w : World) (hr : Kd.C G.k36 w A l.length l) :
    Calls Try.prog 66 #[.slice A l.length c, .func (.func 67) #[] #[]] w fun e w' => e = .returned (.bool (!l.all mayT)) ∧ Below w.heap.size w w' := by
  have H := Lib.hid (tx_index A c l w hr)
  clear hr
  go_enter Try.func66, Try.ntmps66
  go_wp2_with fail
  refine H.out.mono ?_
  rintro e w' ⟨i, rfl, hi, hb⟩
  have HI := Lib.hid hi; have HB := Lib.hid hb
  clear hi hb
  go_wp2_with fail
  go_ret
  refine ⟨?_, HB.out⟩
  show Ending.returned (.bool (decide (0 ≤ i))) = _
  cases hb : l.all mayT with
  | true => rw [decide_eq_false (fun h => by have := HI.out.1 h; rw [hb] at this; cases this)]; rfl
  | false => rw [decide_eq_true (HI.out.2 hb)]; rfl
def EnBox (W : World) (b : Nat) (k f n : Int) (A : Option Addr) (m c : Nat) : Prop := W.heap[b]? = some (.cells #[.int .i64 k, .int .i64 f, .int .i64 n, .slice A m c] 24)
theorem EnBox.cell {W : World} {b : Nat} {k f n : Int} {A : Option Addr} {m c : Nat} (h : EnBox W b k f n A m c) : W.cell? ⟨b, 0, none⟩ = some (.int .i64 k) ∧ W.cell? ⟨b, 1, none⟩ = some (.int .i64 f) ∧ W.cell? ⟨b, 2, none⟩ = some (.int .i64 n) ∧ W.cell? ⟨b, 3, none⟩ = some (.slice A m c) ∧ b < W.heap.size := by
  unfold EnBox at h
  exact ⟨by simp [World.cell?, h], by simp [World.cell?, h], by simp [World.cell?, h], by simp [World.cell?, h], (Array.getElem?_eq_some_iff.1 h).1⟩
theorem EnBox.below {W W' : World} {b : Nat} {k f n : Int} {A : Option Addr} {m c : Nat} (h : EnBox W b k f n A m c) (hb : Below W.heap.size W W') : EnBox W' b k f n A m c := (hb.block b h.cell.2.2.2.2).trans h
theorem below_then {a b c : World} (h : Below a.heap.size a b) (k : Below b.heap.size b c) : Below a.heap.size a c := h.trans (k.mono h.size)
set_option maxHeartbeats 2000000 in
theorem mayEn_is (k f n : Int) (A : Option Addr) (c : Nat) (l : List TxD) (w : World) (hr : Kd.C G.k36 w A l.length l) :
    Calls Try.prog 32 #[.agg #[.int .i64 k, .int .i64 f, .int .i64 n, .slice A l.length c]] w fun e w' => e = .returned (.bool (mayE k f n l)) ∧ Below w.heap.size w w' := by
  have hlm : l.length ≤ 9223372036854775807 := hr.2.1
  obtain ⟨q, hq⟩ : ∃ q, mayE k f n l = q := ⟨_, rfl⟩
  have HQ := Lib.hid hq
  rw [hq]
  clear hq
  have HB1 := Lib.hid (show Below w.heap.size w (w.alloc (.cells #[.int .i64 k, .int .i64 f, .int .i64 n, .slice A l.length c] 24)) from (Below.refl _ _).alloc (Nat.le_refl _) _)
  have HX1 := Lib.hid (show EnBox (w.alloc (.cells #[.int .i64 k, .int .i64 f, .int .i64 n, .slice A l.length c] 24)) w.heap.size k f n A l.length c from heap_alloc_new w _)
  have HR1 := Lib.hid (Kd.C_below hr HB1.out)
  clear hr
  cases h0 : (k == 0) with
  | true =>
    have hk0 : k = 0 := by simpa using h0
    subst hk0
    have HV := Lib.hid (show q = eqEn 0 f n l 0 0 0 [] by rw [← HQ.out]; unfold mayE; rw [if_pos rfl])
    have HS := Lib.hid (sameEn_is 0 f n A c l 0 0 0 none 0 [] _ HR1.out (Kd.C_nil _ _))
    simp only [List.length_nil] at HS
    go_enter Try.func32, Try.ntmps32
    go_wp2_with fail
    refine HS.out.mono ?_
    rintro e w' ⟨rfl, hb⟩
    have HB2 := Lib.hid (below_then HB1.out hb)
    clear hb
    go_wp2_with fail
    go_ret
    exact ⟨by rw [HV.out]; rfl, HB2.out⟩
  | false =>
    have hk0 : k ≠ 0 := by simpa using h0
    have HV := Lib.hid (show q = (k == 1 && (inB 0 4 [f] && (inB 0 1099511627776 [n] && (inB 1 16 [(l.length : Int)] && l.all mayT)))) by rw [← HQ.out]; unfold mayE; rw [if_neg hk0])
    clear hk0
    go_enter Try.func32, Try.ntmps32
    go_wp2_with fail
    have HB2 := Lib.hid (below_then HB1.out ((Below.refl _ (w.alloc (.cells #[.int .i64 k, .int .i64 f, .int .i64 n, .slice A l.length c] 24))).alloc (Nat.le_refl _) (.cells #[.int .i64 l.length] 2)))
    have HX2 := Lib.hid (HX1.out.below ((Below.refl _ (w.alloc (.cells #[.int .i64 k, .int .i64 f, .int .i64 n, .slice A l.length c] 24))).alloc (Nat.le_refl _) (.cells #[.int .i64 l.length] 2)))
    have HR2 := Lib.hid (Kd.C_below HR1.out ((Below.refl _ (w.alloc (.cells #[.int .i64 k, .int .i64 f, .int .i64 n, .slice A l.length c] 24))).alloc (Nat.le_refl _) (.cells #[.int .i64 l.length] 2)))
    have HL := C_lit (w.alloc (.cells #[.int .i64 k, .int .i64 f, .int .i64 n, .slice A l.length c] 24)) [(l.length : Int)] (by simp)
    simp only [World.size_alloc, List.length_singleton] at HL
    refine (between_is _ 1 [(l.length : Int)] 1 16 _ HL).mono ?_
    rintro e w3 ⟨rfl, hb⟩
    have HB3 := Lib.hid (below_then HB2.out hb); have HX3 := Lib.hid (HX2.out.below hb); have HR3 := Lib.hid (Kd.C_below HR2.out hb)
    clear hb HL
    obtain ⟨b4, hb4⟩ : ∃ b4, inB 1 16 [(l.length : Int)] = b4 := ⟨_, rfl⟩
    rw [hb4] at HV ⊢
    obtain ⟨c0, c1, c2, c3, cz⟩ := HX3.out.cell
    cases h1 : (k == 1) with
    | false =>
      have HW := Lib.hid (show q = false by rw [HV.out, h1, Bool.false_and])
      clear hb4
      go_wp2_with fail
      go_ret
      exact ⟨by rw [HW.out]; rfl, HB3.out⟩
    | true =>
      have HW := Lib.hid (show q = (inB 0 4 [f] && (inB 0 1099511627776 [n] && (b4 && l.all mayT))) by rw [HV.out, h1, Bool.true_and])
      clear hb4
      go_wp2_with fail
      refine (G.record_who.calls f (inB 0 4 [f]) w3 rfl).mono ?_
      rintro e w4 ⟨rfl, hb⟩
      have HB4 := Lib.hid (below_then HB3.out hb); have HX4 := Lib.hid (HX3.out.below hb); have HR4 := Lib.hid (Kd.C_below HR3.out hb)
      clear hb c0 c1 c2 c3 cz
      obtain ⟨c0, c1, c2, c3, cz⟩ := HX4.out.cell
      obtain ⟨b2, hb2⟩ : ∃ b2, inB 0 4 [f] = b2 := ⟨_, rfl⟩
      rw [hb2] at HW ⊢
      clear hb2
      cases b2 with
      | false =>
        have HF := Lib.hid (show q = false by rw [HW.out, Bool.false_and])
        go_wp2_with fail
        go_ret
        exact ⟨by rw [HF.out]; rfl, HB4.out⟩
      | true =>
        go_wp2_with fail
        have HL := C_lit w4 [n] (by simp)
        simp only [List.length_singleton] at HL
        refine (G.record_count.calls _ 1 [n] (inB 0 1099511627776 [n]) _ HL (by simp) rfl).mono ?_
        rintro e w5 ⟨rfl, hb⟩
        have hb' := below_then ((Below.refl _ w4).alloc (Nat.le_refl _) _) hb
        have HB5 := Lib.hid (below_then HB4.out hb'); have HX5 := Lib.hid (HX4.out.below hb'); have HR5 := Lib.hid (Kd.C_below HR4.out hb')
        clear hb hb' HL c0 c1 c2 c3 cz
        obtain ⟨c0, c1, c2, c3, cz⟩ := HX5.out.cell
        obtain ⟨b3, hb3⟩ : ∃ b3, inB 0 1099511627776 [n] = b3 := ⟨_, rfl⟩
        rw [hb3] at HW ⊢
        clear hb3
        cases b3 with
        | false =>
          have HF := Lib.hid (show q = false by rw [HW.out, Bool.false_and, Bool.and_false])
          go_wp2_with fail
          go_ret
          exact ⟨by rw [HF.out]; rfl, HB5.out⟩
        | true =>
          cases b4 with
          | false =>
            have HF := Lib.hid (show q = false by rw [HW.out, Bool.false_and, Bool.and_false, Bool.and_false])
            go_wp2_with fail
            go_ret
            exact ⟨by rw [HF.out]; rfl, HB5.out⟩
          | true =>
            have HF := Lib.hid (show q = l.all mayT by rw [HW.out, Bool.true_and, Bool.true_and, Bool.true_and])
            go_wp2_with fail
            refine (tx_has A c l _ HR5.out).mono ?_
            rintro e w6 ⟨rfl, hb⟩
            have HB6 := Lib.hid (below_then HB5.out hb)
            clear hb
            go_wp2_with fail
            go_ret
            exact ⟨by rw [HF.out]; simp, HB6.out⟩
end Go.Proofs.Ytgiefblcckikeaa.M
namespace Go.Proofs.Ytgiefblcckikeaa.G
open Go.RowKit Go.Proofs.YtgiefblcckikeaaW.PrintWords Go.Proofs.Ytgiefblcckikeaa.M
def record_entry.f (a0_0 a0_1 a0_2 : Int) (l0_3 : List S36) : Option Bool := some (mayE a0_0 a0_1 a0_2 l0_3)
theorem record_entry.calls (a0_0 a0_1 a0_2 : Int) (A0_3 : Option Addr) (c0_3 : Nat) (l0_3 : List S36) (r : Bool) (w : World) (hr0_3 : Kd.C k36 w A0_3 l0_3.length l0_3) (hc0_3 : l0_3.length ≤ c0_3) (h : record_entry.f a0_0 a0_1 a0_2 l0_3 = some r) :
    Calls Try.prog 32 #[.agg #[.int .i64 a0_0, .int .i64 a0_1, .int .i64 a0_2, .slice A0_3 l0_3.length c0_3]] w fun e w' => e = .returned (.bool r) ∧ Below w.heap.size w w' := by
  obtain rfl := Option.some.inj h
  exact mayEn_is a0_0 a0_1 a0_2 A0_3 c0_3 l0_3 w hr0_3
end Go.Proofs.Ytgiefblcckikeaa.G
end

section

/- The pen: bytes that grow. -/
set_option maxRecDepth 100000
set_option linter.unusedVariables false
set_option linter.unusedSimpArgs false
attribute [local irreducible] Go.wpStill
namespace Go.Proofs.Ytgiefblcckikeaa.M
open Go.RowKit Go.Proofs.YtgiefblcckikeaaW.PrintWords Go.Proofs.YtgiefblcckikeaaW.PrintLast Go.Proofs.YtgiefblcckikeaaW.PrintMore Go.Proofs.Ytgiefblcckikeaa.G
def IsPen (W : World) (base p : Nat) (l : List Int) : Prop := ∃ (A : Option Addr) (c : Nat), W.heap[p]? = some (.cells #[.slice A l.length c] 74) ∧ base ≤ p ∧ l.length ≤ c ∧ Kd.R (Kd.int .u8) 5 W base (fun i => i ≠ p) (.slice A l.length c) l
theorem IsPen.lt {W : World} {base p : Nat} {l : List Int} (h : IsPen W base p l) : p < W.heap.size := by
  obtain ⟨A, c, h1, _⟩ := h
  exact (Array.getElem?_eq_some_iff.1 h1).1
theorem IsPen.ge {W : World} {base p : Nat} {l : List Int} (h : IsPen W base p l) : base ≤ p := by
  obtain ⟨A, c, h1, h2, _⟩ := h
  exact h2
theorem IsPen.below {W W' : World} {base p : Nat} {l : List Int} (h : IsPen W base p l) (hb : Below W.heap.size W W') : IsPen W' base p l := by
  have hl := h.lt
  obtain ⟨A, c, h1, h2, h3, h4⟩ := h
  exact ⟨A, c, (hb.block p hl).trans h1, h2, h3, Kd.R_step h4 (fun k _ hlt => hb.block k hlt)⟩
theorem isPen_put {W : World} {base p : Nat} {l l' : List Int} {v : Value} (h : IsPen W base p l) {base' : Nat} {ok : Nat → Prop} (hv : Kd.R (Kd.int .u8) 5 W base' ok v l') (hp : p < base') : ∃ (A : Option Addr) (c : Nat), v = .slice A l'.length c ∧ IsPen (W.setCell ⟨p, 0, none⟩ (.slice A l'.length c)) base p l' := by
  obtain ⟨A0, c0, h1, hbp, _, _⟩ := h
  have hv2 := Kd.R_mono (Kd.R_bound hv) (fun k hk => (by have := hk.2.1; omega : k ≠ p))
  obtain ⟨A, c, rfl⟩ := Kd.R_slice hv2
  refine ⟨A, c, rfl, A, c, ?_, hbp, (Kd.R_reads' hv2).2.1, ?_⟩
  · have := heap_same W ⟨p, 0, none⟩ (.slice A l'.length c) h1 rfl
    simpa using this
  · exact Kd.R_lower (Kd.R_step hv2 (fun i hi _ => Below.heap_setCell W ⟨p, 0, none⟩ _ i hi)) (by omega)
def PenP (w0 w : World) (p : Nat) (l' : List Int) (e : Ending) (w' : World) : Prop := e = .returned (.tuple #[]) ∧ IsPen w' w0.heap.size p l' ∧ Below w0.heap.size w0 w' ∧ KeepS (fun i => i = p) w w'
set_option maxHeartbeats 1000000 in
theorem nums_is {w0 w : World} {p : Nat} {l : List Int} (hI : IsPen w w0.heap.size p l) (hB : Below w0.heap.size w0 w) (hp : w0.heap.size ≤ p) (B : Option Addr) (c1 : Nat) (ns : List Int) (hr : Kd.C (Kd.int .i64) w B ns.length ns) (ho : okI ns = true) (hs : l.length + 9 * ns.length < 140737488355328) :
    Calls Try.prog 70 #[.pointer (some ⟨p, 0, none⟩), .slice B ns.length c1] w fun e w' => PenP w0 w p (l ++ numsB ns) e w' := by
  have HI := Lib.hid hI; have HB := Lib.hid hB; have HP := Lib.hid hp
  obtain ⟨A, c, h1, _, h2, h3⟩ := hI
  have HN := Lib.hid (num_calls A c l B c1 ns w (Kd.R_reads' h3).2.2 h2 hr ho hs)
  have c0 : w.cell? ⟨p, 0, none⟩ = some (.slice A l.length c) := by simp [World.cell?, h1]
  obtain ⟨l2, hl2⟩ : ∃ l2, l ++ numsB ns = l2 := ⟨_, rfl⟩
  rw [hl2] at HN ⊢
  clear h1 h2 h3 hr ho hs hB hp hl2
  go_enter Try.func70, Try.ntmps70
  go_wp2_with fail
  refine HN.out.mono ?_
  rintro e w1 ⟨v, rfl, hv, hb⟩
  have HI1 := Lib.hid (HI.out.below hb)
  have HB1 := Lib.hid (HB.out.trans (hb.mono HB.out.size))
  have HKK := Lib.hid ((KeepS.of_below (fun i => i = p) hb).set (p := ⟨p, 0, none⟩) (.inl rfl))
  obtain ⟨A', c', rfl, hP⟩ := isPen_put HI1.out hv HI.out.lt
  have HPP := Lib.hid hP
  have d0 : w1.cell? ⟨p, 0, none⟩ = some (.slice A l.length c) := (hb.cell (p := ⟨p, 0, none⟩) HI.out.lt).trans c0
  have d1 : w1.frozen? ⟨p, 0, none⟩ = false := by
    obtain ⟨A2, c2, h4, _⟩ := HI1.out
    simp [World.frozen?, h4]
  clear hb hv hP c0
  go_wp2_with fail
  go_end0
  exact ⟨rfl, HPP.out, HB1.out.setCell (by exact HP.out) _, HKK.out _⟩
theorem many_is {w0 w : World} {p : Nat} {l : List Int} (hI : IsPen w w0.heap.size p l) (hB : Below w0.heap.size w0 w) (hp : w0.heap.size ≤ p) (n : Int) (ho : isI64 n) (hs : l.length + 9 < 140737488355328) :
    Calls Try.prog 69 #[.pointer (some ⟨p, 0, none⟩), .int .i64 n] w fun e w' => PenP w0 w p (l ++ numB n) e w' := by
  have HB2 := (Below.refl w.heap.size w).alloc (Nat.le_refl _) (.cells #[.int .i64 n] 2)
  have HN := Lib.hid (nums_is (hI.below HB2) (hB.alloc hB.size _) hp _ 1 [n] (C_lit w [n] (by simp)) (by simp [okI, ho]) (by simpa using hs))
  simp only [List.length_singleton, numsB, List.flatMap_cons, List.flatMap_nil, List.append_nil] at HN
  clear hI hB hp ho hs HB2
  go_enter Try.func69, Try.ntmps69
  go_wp2_with fail
  refine HN.out.mono ?_
  rintro e w1 ⟨rfl, h1, h2, h3⟩
  have H1 := Lib.hid h1; have H2 := Lib.hid h2
  have H3 := Lib.hid (((KeepS.refl (fun i => i = p) w).alloc (.cells #[.int .i64 n] 2)).trans h3)
  clear h1 h2 h3
  go_wp2_with fail
  go_end0
  exact ⟨rfl, H1.out, H2.out, H3.out⟩
set_option maxHeartbeats 1000000 in
theorem data_is {w0 w : World} {p : Nat} {l : List Int} (hI : IsPen w w0.heap.size p l) (hB : Below w0.heap.size w0 w) (hp : w0.heap.size ≤ p) (B : Option Addr) (c1 : Nat) (bs : List Int) (hr : Kd.C (Kd.int .u8) w B bs.length bs) (hc1 : bs.length ≤ c1) (hs : l.length + bs.length + 9 < 140737488355328) :
    Calls Try.prog 72 #[.pointer (some ⟨p, 0, none⟩), .slice B bs.length c1] w fun e w' => PenP w0 w p (l ++ numB bs.length ++ bs) e w' := by
  have HI := Lib.hid hI; have HB := Lib.hid hB; have HP := Lib.hid hp
  obtain ⟨A, c, h1, _, h2, h3⟩ := hI
  have hi : isI64 (bs.length : Int) := by unfold isI64; omega
  have hf : G.shape_Blob.f l bs = some (l ++ numB bs.length ++ bs) := by
    unfold G.shape_Blob.f G.shape_Num.f
    have e1 : okI [(bs.length : Int)] = true := by simp [okI, hi]
    rw [if_pos ⟨e1, by simp; omega⟩]
    have e2 := (numB_len hi).2
    simp only [Option.bind_some, numsB, List.flatMap_cons, List.flatMap_nil, List.append_nil]
    rw [if_pos (by rw [List.length_append]; omega)]
  have HN := Lib.hid (G.shape_Blob.calls A c l B c1 bs _ w (Kd.R_reads' h3).2.2 h2 hr hc1 hf)
  have c0 : w.cell? ⟨p, 0, none⟩ = some (.slice A l.length c) := by simp [World.cell?, h1]
  obtain ⟨l2, hl2⟩ : ∃ l2, l ++ numB bs.length ++ bs = l2 := ⟨_, rfl⟩
  rw [hl2] at HN ⊢
  clear h1 h2 h3 hr hs hB hp hi hf hc1 hl2
  go_enter Try.func72, Try.ntmps72
  go_wp2_with fail
  refine HN.out.mono ?_
  rintro e w1 ⟨v, rfl, hv, hb⟩
  have HI1 := Lib.hid (HI.out.below hb)
  have HB1 := Lib.hid (HB.out.trans (hb.mono HB.out.size))
  have HKK := Lib.hid ((KeepS.of_below (fun i => i = p) hb).set (p := ⟨p, 0, none⟩) (.inl rfl))
  obtain ⟨A', c', rfl, hP⟩ := isPen_put HI1.out hv HI.out.lt
  have HPP := Lib.hid hP
  have d0 : w1.cell? ⟨p, 0, none⟩ = some (.slice A l.length c) := (hb.cell (p := ⟨p, 0, none⟩) HI.out.lt).trans c0
  have d1 : w1.frozen? ⟨p, 0, none⟩ = false := by
    obtain ⟨A2, c2, h4, _⟩ := HI1.out
    simp [World.frozen?, h4]
  clear hb hv hP c0
  go_wp2_with fail
  go_end0
  exact ⟨rfl, HPP.out, HB1.out.setCell (by exact HP.out) _, HKK.out _⟩
theorem newPen_is (A : Option Addr) (c : Nat) (l : List Int) (w : World) (hr : Kd.C (Kd.int .u8) w A l.length l) (hc : l.length ≤ c) (hl : l.length < 140737488355328) :
    Calls Try.prog 33 #[.slice A l.length c] w fun e w' => ∃ p, e = .returned (.pointer (some ⟨p, 0, none⟩)) ∧ IsPen w' w.heap.size p l ∧ Below w.heap.size w w' := by
  have HN := Lib.hid (clone_calls A c l w hr hc hl)
  clear hr hc hl
  go_enter Try.func33, Try.ntmps33
  go_wp2_with fail
  refine HN.out.mono ?_
  rintro e w1 ⟨v, rfl, hv, hb⟩
  have HB1 := Lib.hid hb
  have hv2 := Kd.R_mono (Kd.R_bound hv) (fun k hk => (by have := hk.2.2.1; omega : k ≠ w1.heap.size))
  obtain ⟨A', c', rfl⟩ := Kd.R_slice hv2
  have HV := Lib.hid hv2
  clear hb hv hv2
  go_wp2_with fail
  go_ret
  refine ⟨w1.heap.size, rfl, ⟨A', c', heap_alloc_new w1 _, HB1.out.size, (Kd.R_reads' HV.out).2.1, ?_⟩, HB1.out.alloc HB1.out.size _⟩
  exact Kd.R_step HV.out (fun k _ hlt => Below.heap_alloc w1 _ k hlt)
end Go.Proofs.Ytgiefblcckikeaa.M
end

section

/- Contract of trivet/shape.take. -/
set_option maxRecDepth 100000
set_option linter.unusedVariables false
set_option linter.unusedSimpArgs false
namespace Go.Proofs.Ytgiefblcckikeaa.M
open Go.RowKit Go.Proofs.YtgiefblcckikeaaW.PrintWords
def takeEnd (l : List Int) : Ending := if tkE l = 0 then .returned (.tuple #[.int .i64 (tkN l), .int .i64 (tkS l)]) else .panicked [{ v := wrongV (tkE l), recovered := false }]
theorem takeEnd_bad {l : List Int} {e : Int} (h : tkE l = e) (he : ¬ e = 0) : takeEnd l = .panicked [{ v := wrongV e, recovered := false }] := by
  unfold takeEnd
  rw [h, if_neg he]
theorem takeEnd_good {l : List Int} (h : tkE l = 0) : takeEnd l = .returned (.tuple #[.int .i64 (tkN l), .int .i64 (tkS l)]) := by
  unfold takeEnd
  rw [if_pos h]
set_option maxHeartbeats 1000000 in
theorem take_any (A : Option Addr) (c : Nat) (l : List Int) (w : World) (hr : Kd.C (Kd.int .u8) w A l.length l) (hc : l.length ≤ c) (hb : okB l = true) :
    Calls Try.prog 109 #[.slice A l.length c] w fun e w' => e = takeEnd l ∧ w' = w := by
  have HR := Aside0.mk hr
  have HC := Aside0.mk hc
  have HB := Aside0.mk hb
  clear hr hc hb
  obtain ⟨E, hE⟩ : ∃ E, takeEnd l = E := ⟨_, rfl⟩
  rw [hE]
  have HE := Aside0.mk hE
  clear hE
  by_cases h1 : l = []
  · have he : tkE l = 10 := by unfold tkE; rw [if_pos h1]
    have HF := Aside0.mk (HE.out.symm.trans (takeEnd_bad he (by decide)))
    subst h1
    clear he
    go_enter Try.func109, Try.ntmps109
    go_wp2_with (go_at_call 114; first | ((with_reducible refine (give_no _ _).mono ?_); rintro e w' ⟨rfl, rfl⟩) | ((with_reducible refine (give_yes _ _).mono ?_); rintro e w' ⟨rfl, rfl⟩))
    exact ⟨rfl, HF.out.symm, rfl⟩
  have hl : 0 < l.length := List.length_pos_iff.2 h1
  have hlz : ((l.length : Int) == 0) = false := beq_eq_false_iff_ne.2 (by omega)
  have hb0 := okB_rd HB.out 0
  obtain ⟨ad, hA, hx0⟩ := Kd.at_int HR.out 0 (by omega) (by omega)
  rw [show ((0 : Int)).toNat = 0 from rfl, Addr.add_zero'] at hx0
  subst hA
  by_cases h2 : 17 < rd l 0 ∨ rd l 0 = 1
  · have he : tkE l = 11 := by unfold tkE; rw [if_neg h1, if_pos h2]
    have HF := Aside0.mk (HE.out.symm.trans (takeEnd_bad he (by decide)))
    have h3 : decide (17 < rd l 0) = true ∨ (decide (17 < rd l 0) = false ∧ (rd l 0 == 1) = true) := by
      rcases h2 with h | h
      · exact .inl (decide_eq_true h)
      · exact .inr ⟨decide_eq_false (by omega), by rw [h]; rfl⟩
    clear h2 he h1
    rcases h3 with h3 | ⟨h3, h4⟩
    all_goals
      go_enter Try.func109, Try.ntmps109
      go_wp2_with (go_at_call 114; first | ((with_reducible refine (give_no _ _).mono ?_); rintro e w' ⟨rfl, rfl⟩) | ((with_reducible refine (give_yes _ _).mono ?_); rintro e w' ⟨rfl, rfl⟩))
      exact ⟨rfl, HF.out.symm, rfl⟩
  have h3 : decide (17 < rd l 0) = false := decide_eq_false (by omega)
  have h4 : (rd l 0 == 1) = false := beq_eq_false_iff_ne.2 (by omega)
  obtain ⟨k, hk⟩ : ∃ k, tkK l = k := ⟨_, rfl⟩
  have hk8 : k ≤ 8 := by unfold tkK at hk; omega
  have hq : rd l 0 / 2 = (k : Int) := by unfold tkK at hk; omega
  by_cases h5 : l.length ≤ k
  · have he : tkE l = 10 := by unfold tkE; rw [if_neg h1, if_neg h2, hk, if_pos h5]
    have HF := Aside0.mk (HE.out.symm.trans (takeEnd_bad he (by decide)))
    have h6 : decide (l.length ≤ k) = true := decide_eq_true h5
    clear h2 he h1
    have HK := Lib.hid hk
    clear hk
    go_enter Try.func109, Try.ntmps109
    go_wp2_with (go_at_call 114; first | ((with_reducible refine (give_no _ _).mono ?_); rintro e w' ⟨rfl, rfl⟩) | ((with_reducible refine (give_yes _ _).mono ?_); rintro e w' ⟨rfl, rfl⟩))
    exact ⟨rfl, HF.out.symm, rfl⟩
  have h6 : decide (l.length ≤ k) = false := decide_eq_false h5
  have hrk : ∀ i : Nat, i ≤ k → w.cell? (ad.add i) = some (.int .u8 (rd l (i : Int))) := by
    intro i hi
    obtain ⟨ad', hA, hx⟩ := Kd.at_int HR.out (i : Int) (by omega) (by omega)
    obtain rfl : ad = ad' := by injection hA
    simpa using hx
  by_cases h7 : 0 < k ∧ rd l k = 0
  · have he : tkE l = 11 := by unfold tkE; rw [if_neg h1, if_neg h2, hk, if_neg h5, if_pos h7]
    have HF := Aside0.mk (HE.out.symm.trans (takeEnd_bad he (by decide)))
    have hxk := hrk k (Nat.le_refl _)
    obtain ⟨h8, h9⟩ := h7
    rw [h9] at hxk
    have h10 : decide (0 < (k : Int)) = true := decide_eq_true (by omega)
    have h11 : (k : Int) < (l.length : Int) := by omega
    clear h2 he h1 hrk h9
    have HK := Lib.hid hk
    clear hk
    go_enter Try.func109, Try.ntmps109
    go_wp2_with (go_at_call 114; first | ((with_reducible refine (give_no _ _).mono ?_); rintro e w' ⟨rfl, rfl⟩) | ((with_reducible refine (give_yes _ _).mono ?_); rintro e w' ⟨rfl, rfl⟩))
    exact ⟨rfl, HF.out.symm, rfl⟩
  have h8 : (decide (0 < (k : Int)) = false ∧ k = 0) ∨ (0 < k ∧ (rd l k == 0) = false) := by
    rcases Nat.eq_zero_or_pos k with h | h
    · exact .inl ⟨decide_eq_false (by omega), h⟩
    · exact .inr ⟨h, beq_eq_false_iff_ne.2 (fun h' => h7 ⟨h, h'⟩)⟩
  have hxk := hrk k (Nat.le_refl _)
  have h11 : (k : Int) < (l.length : Int) := by omega
  have HP := Aside0.mk (show (if l = [] then (10:Int) else if 17 < rd l 0 ∨ rd l 0 = 1 then 11 else if l.length ≤ tkK l then 10 else if 0 < tkK l ∧ rd l (tkK l) = 0 then 11 else if big63 < tkU l ∨ (tkU l = big63 ∧ rd l 0 % 2 = 0) then 11 else 0) = if big63 < tkU l ∨ (tkU l = big63 ∧ rd l 0 % 2 = 0) then 11 else 0 by rw [if_neg h1, if_neg h2, hk, if_neg h5, if_neg h7])
  have HK := Lib.hid hk
  have HRK := Aside0.mk hrk
  clear hk hrk h2 h5 h7
  go_enter Try.func109, Try.ntmps109
  rcases h8 with ⟨h8, h9⟩ | ⟨h8, h9⟩
  all_goals
    (try (subst h9; clear h6))
    go_wp2_with (go_at_call 114; first | ((with_reducible refine (give_no _ _).mono ?_); rintro e w' ⟨rfl, rfl⟩) | ((with_reducible refine (give_yes _ _).mono ?_); rintro e w' ⟨rfl, rfl⟩))
    go_loop [5, 6] (fun u i => ∃ (j : Nat) (U : Int), j ≤ tkK l ∧ i = .int .i64 (j : Int) ∧ u = .int .u64 U ∧ Aside0 (U = upFrom l j (tkK l))) (fun _ i => (intOf i).toNat)
    case atStart => exact ⟨tkK l, 0, Nat.le_refl _, by first | (rw [HK.out]; done) | (rw [HK.out]; rfl), rfl, ⟨(upFrom_end _ _).symm⟩⟩
    case round =>
      obtain ⟨j, U, hj, rfl, rfl, HU⟩ := hrel
      have hk8' : tkK l ≤ 8 := by rw [HK.out]; exact hk8
      have hkl : tkK l < l.length := by rw [HK.out]; omega
      by_cases hlt : 0 < j
      · have hxj := HRK.out j (by rw [← HK.out]; exact hj)
        have hj0 : (0 : Int) ≤ (j : Int) := by omega
        have hj1 : (j : Int) < (l.length : Int) := by omega
        have hbj := okB_rd HB.out (j : Int)
        have HV := Aside0.mk (show bits BinOp.or IntKind.u64 (U * 256) (rd l j) = upFrom l (j - 1) (tkK l) by
          rw [HU.out, or_byte _ _ (upFrom_nonneg HB.out _ _) (upFrom_lt HB.out hlt hk8') hbj.1 hbj.2, upFrom_step hlt hj hkl])
        have hU0 : 0 ≤ U := by rw [HU.out]; exact upFrom_nonneg HB.out _ _
        have hU1 : U < 72057594037927936 := by rw [HU.out]; exact upFrom_lt HB.out hlt hk8'
        go_wp2
        go_round
        case rel =>
          refine ⟨j - 1, _, by omega, by go_num, rfl, ⟨?_⟩⟩
          exact HV.out
        case measure => simp [intOf]; omega
      · obtain rfl : j = 0 := by omega
        have hU : U = tkU l := by rw [HU.out, upFrom_zero]
        have hu0 : 0 ≤ U := by rw [HU.out]; exact upFrom_nonneg HB.out 0 _
        have hu1 : U < 18446744073709551616 := by rw [HU.out]; exact upFrom_lt8 HB.out (j := 0) hk8'
        have hT : tkE l = if big63 < U ∨ (U = big63 ∧ rd l 0 % 2 = 0) then 11 else 0 := by rw [hU]; exact HP.out
        have hS : tkS l = (tkK l : Int) + 1 := rfl
        rw [HK.out] at hS
        unfold big63 at hT
        have hm : rd l 0 % 2 = 0 ∨ rd l 0 % 2 = 1 := by omega
        rcases hm with hm | hm
        · by_cases hg : U < 9223372036854775808
          · have hN : tkN l = U := by unfold tkN; rw [if_neg (by omega), hU]
            have HF := Aside0.mk (HE.out.symm.trans (takeEnd_good (by rw [hT, if_neg (by omega)])))
            rw [hN, hS] at HF
            clear hU HU hN hS hT
            have hg1 : decide (9223372036854775808 < U) = false := decide_eq_false (by omega)
            have hg2 : (U == 9223372036854775808) = false := beq_eq_false_iff_ne.2 (by omega)
            have hw : wrap64 U = U := by unfold wrap64; omega
            go_wp2_with (go_at_call 114; first | ((with_reducible refine (give_no _ _).mono ?_); rintro e w' ⟨rfl, rfl⟩) | ((with_reducible refine (give_yes _ _).mono ?_); rintro e w' ⟨rfl, rfl⟩))
            go_ret2
            exact ⟨HF.out.symm, rfl⟩
          · have HF := Aside0.mk (HE.out.symm.trans (takeEnd_bad (e := 11) (by rw [hT, if_pos (by omega)]) (by decide)))
            clear hU HU hS hT
            have hg3 : (decide (9223372036854775808 < U) = true) ∨ (decide (9223372036854775808 < U) = false ∧ (U == 9223372036854775808) = true) := by
              by_cases h : 9223372036854775808 < U
              · exact .inl (decide_eq_true h)
              · exact .inr ⟨decide_eq_false h, beq_iff_eq.2 (by omega)⟩
            rcases hg3 with hg1 | ⟨hg1, hg2⟩
            all_goals
              go_wp2_with (go_at_call 114; first | ((with_reducible refine (give_no _ _).mono ?_); rintro e w' ⟨rfl, rfl⟩) | ((with_reducible refine (give_yes _ _).mono ?_); rintro e w' ⟨rfl, rfl⟩))
              exact ⟨rfl, HF.out.symm, rfl⟩
        · by_cases hg : 9223372036854775808 < U
          · have HF := Aside0.mk (HE.out.symm.trans (takeEnd_bad (e := 11) (by rw [hT, if_pos (by omega)]) (by decide)))
            clear hU HU hS hT
            have hg1 : decide (9223372036854775808 < U) = true := decide_eq_true hg
            go_wp2_with (go_at_call 114; first | ((with_reducible refine (give_no _ _).mono ?_); rintro e w' ⟨rfl, rfl⟩) | ((with_reducible refine (give_yes _ _).mono ?_); rintro e w' ⟨rfl, rfl⟩))
            exact ⟨rfl, HF.out.symm, rfl⟩
          · have hN : tkN l = wrap64 (IntKind.u64.wrap (-U)) := by
              unfold tkN; rw [if_pos hm, hU, IntKind.wrap_u64]; unfold wrap64; omega
            have HF := Aside0.mk (HE.out.symm.trans (takeEnd_good (by rw [hT, if_neg (by omega)])))
            rw [hN, hS] at HF
            clear hU HU hN hS hT
            have hg1 : decide (9223372036854775808 < U) = false := decide_eq_false (by omega)
            go_wp2_with (go_at_call 114; first | ((with_reducible refine (give_no _ _).mono ?_); rintro e w' ⟨rfl, rfl⟩) | ((with_reducible refine (give_yes _ _).mono ?_); rintro e w' ⟨rfl, rfl⟩))
            · have h : U = 9223372036854775808 := by assumption
              rw [h] at HF
              go_ret2
              exact ⟨HF.out.symm, rfl⟩
            · go_ret2
              exact ⟨HF.out.symm, rfl⟩
end Go.Proofs.Ytgiefblcckikeaa.M
end

section

/- Contract of trivet/shape.TakeNum. -/
set_option maxRecDepth 100000
set_option linter.unusedVariables false
set_option linter.unusedSimpArgs false
namespace Go.Proofs.Ytgiefblcckikeaa.M
open Go.RowKit Go.Proofs.YtgiefblcckikeaaW.PrintWords
def takeNum (l : List Int) : Int × Int × Int := if tkE l = 0 then (tkN l, tkS l, 0) else (0, 0, tkE l)
structure Boxes (b : Nat) (A : Option Addr) (c n : Nat) (z1 z2 : Value) (w : World) : Prop where
  b0 : w.cell? ⟨b, 0, none⟩ = some (.slice A n c)
  n0 : w.cell? ⟨b + 1, 0, none⟩ = some z1
  n1 : w.frozen? ⟨b + 1, 0, none⟩ = false
  s0 : w.cell? ⟨b + 2, 0, none⟩ = some z2
  s1 : w.frozen? ⟨b + 2, 0, none⟩ = false
theorem takenum1 (A : Option Addr) (c : Nat) (l : List Int) (w : World) (hr : Kd.C (Kd.int .u8) w A l.length l) (hc : l.length ≤ c) (hb : okB l = true) (b : Nat) (hx : Boxes b A c l.length (.int .i64 0) (.int .i64 0) w) :
    Calls Try.prog 108 #[.pointer (some ⟨b, 0, none⟩), .pointer (some ⟨b + 1, 0, none⟩), .pointer (some ⟨b + 2, 0, none⟩)] w fun e W => Keep2 b w W ∧
      (W.cell? ⟨b + 1, 0, none⟩ = some (.int .i64 (takeNum l).1) ∧ W.cell? ⟨b + 2, 0, none⟩ = some (.int .i64 (takeNum l).2.1) ∧ W.frozen? ⟨b + 1, 0, none⟩ = false ∧ W.frozen? ⟨b + 2, 0, none⟩ = false) ∧
      ((e = .returned (.tuple #[]) ∧ tkE l = 0) ∨ e = .panicked [{ v := wrongV (tkE l), recovered := false }]) := by
  have HT := Lib.hid (take_any A c l w hr hc hb)
  obtain ⟨hb0, hn0, hn1, hs0, hs1⟩ := hx
  by_cases he : tkE l = 0
  · have HE := Aside0.mk (takeEnd_good he)
    have HZ := Aside0.mk he
    have HN := Aside0.mk (show takeNum l = (tkN l, tkS l, 0) by unfold takeNum; rw [if_pos he])
    clear he
    go_enter Try.func108, Try.ntmps108
    go_wp2_with (go_at_call 109; refine HT.out.mono ?_; rintro e w' ⟨rfl, rfl⟩; rw [HE.out])
    go_end0
    rw [HN.out]
    exact ⟨((Keep2.refl _ _).set1 _).set2 _, ⟨by simp [go_sem, hn0], by simp [go_sem, hs0], by simp [go_sem, hn1], by simp [go_sem, hs1]⟩, .inl ⟨rfl, HZ.out⟩⟩
  · have HE := Aside0.mk (takeEnd_bad rfl he)
    have HN := Aside0.mk (show takeNum l = (0, 0, tkE l) by unfold takeNum; rw [if_neg he])
    clear he
    go_enter Try.func108, Try.ntmps108
    go_wp2_with (go_at_call 109; refine HT.out.mono ?_; rintro e w' ⟨rfl, rfl⟩; rw [HE.out])
    rw [HN.out]
    exact ⟨rfl, Keep2.refl _ _, ⟨hn0, hs0, hn1, hs1⟩, .inr rfl⟩
theorem takeNum_calls (A : Option Addr) (c : Nat) (l : List Int) (w : World) (hr : Kd.C (Kd.int .u8) w A l.length l) (hc : l.length ≤ c) (hb : okB l = true) :
    Calls Try.prog 100 #[.slice A l.length c] w fun e w' => e = .returned (.tuple #[.int .i64 (takeNum l).1, .int .i64 (takeNum l).2.1, .int .i64 (takeNum l).2.2]) ∧ Below w.heap.size w w' := by
  have HR := Aside0.mk hr
  have HC := Aside0.mk hc
  have HB := Aside0.mk hb
  clear hr hc hb
  have hmf : ∀ (fn : Fn) (first cap : Array Value) (w : World), (Instr.makeFunc fn first cap).run Try.prog w = .ok (.func fn first cap) w := fun _ _ _ _ => rfl
  go_enter Try.func100, Try.ntmps100
  go_wp2_with fail
  have HX : Boxes w.heap.size A c l.length (.int .i64 0) (.int .i64 0) ((((w.alloc (.cells #[.slice A l.length c] 26)).alloc (.cells #[.int .i64 0] 2)).alloc (.cells #[.int .i64 0] 3)).alloc (.cells #[.int .i64 0] 27)) := by
    constructor <;> simp [go_sem]
  refine (try_calls 108 _ w.heap.size _ _ (tkE l) (by simp) (enter_any _ _ _ Try.func108 rfl (by kernel_rfl))
    (takenum1 A c l _ (Kd.C_alloc (Kd.C_alloc (Kd.C_alloc (Kd.C_alloc HR.out _) _) _) _) HC.out HB.out w.heap.size HX)).mono ?_
  rintro e w1 ⟨W, ⟨hn, hs, hnf, hsf⟩, rfl, hk, hz, hbl, _⟩
  have hn1 : w1.cell? ⟨w.heap.size + 1, 0, none⟩ = some (.int .i64 (takeNum l).1) := (hbl.cell (by simp)).trans hn
  have hs1 : w1.cell? ⟨w.heap.size + 1 + 1, 0, none⟩ = some (.int .i64 (takeNum l).2.1) := (hbl.cell (by simp)).trans hs
  have hnf1 : w1.frozen? ⟨w.heap.size + 1, 0, none⟩ = false := (hbl.frozen (by simp)).trans hnf
  have hsf1 : w1.frozen? ⟨w.heap.size + 1 + 1, 0, none⟩ = false := (hbl.frozen (by simp)).trans hsf
  have HBL := Aside0.mk (show Below w.heap.size w w1 from
    (((((Below.refl w.heap.size w).alloc (Nat.le_refl _) _).alloc (by simp) _).alloc (by simp; omega) _).trans (hk.below (by omega) (by simp; omega))).trans (hbl.mono (by simp; omega)))
  have HT := Aside0.mk (show tkE l = (takeNum l).2.2 by unfold takeNum; split <;> simp [*])
  clear hn hs hnf hsf hk hz hbl HX
  go_wp2
  go_region
  all_goals
    go_wp2
    refine bodyPost_ret (v := .tuple #[.int .i64 (takeNum l).1, .int .i64 (takeNum l).2.1, .int .i64 (tkE l)]) (by simp [results, Try.results100, go_sem, hn1, hs1]) rfl ⟨by rw [HT.out], ?_⟩
    repeat first | exact HBL.out | exact (by assumption) | apply Below.drew | refine Below.setCell ?_ (by first | (simp; done) | (simp; omega)) _
end Go.Proofs.Ytgiefblcckikeaa.M
namespace Go.Proofs.Ytgiefblcckikeaa.G
open Go.RowKit Go.Proofs.YtgiefblcckikeaaW.PrintWords Go.Proofs.Ytgiefblcckikeaa.M
def shape_TakeNum.f (l0 : List Int) : Option (Int × Int × Int) := if okB l0 = true then some (takeNum l0) else none
theorem shape_TakeNum.calls (A0 : Option Addr) (c0 : Nat) (l0 : List Int) (r1 : Int) (r2 : Int) (r3 : Int) (w : World) (hr0 : Kd.C (Kd.int .u8) w A0 l0.length l0) (hc0 : l0.length ≤ c0) (h : shape_TakeNum.f l0 = some (r1, r2, r3)) :
    Calls Try.prog 100 #[.slice A0 l0.length c0] w fun e w' => e = .returned (.tuple #[.int .i64 r1, .int .i64 r2, .int .i64 r3]) ∧ Below w.heap.size w w' := by
  unfold shape_TakeNum.f at h
  split at h
  · rename_i hb
    have h := Option.some.inj h
    have h1 : r1 = (takeNum l0).1 := by rw [h]
    have h2 : r2 = (takeNum l0).2.1 := by rw [h]
    have h3 : r3 = (takeNum l0).2.2 := by rw [h]
    rw [h1, h2, h3]
    exact takeNum_calls A0 c0 l0 w hr0 hc0 hb
  · cases h
end Go.Proofs.Ytgiefblcckikeaa.G
end
