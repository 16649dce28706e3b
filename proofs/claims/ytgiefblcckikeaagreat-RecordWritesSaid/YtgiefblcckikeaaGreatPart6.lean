/- RecordWritesSaid: contracts of the functions that the law goes through, put together in build order (part 7 of 8). -/
import Derived.Test.YtgiefblcckikeaaGreatPart5
import Derived.Laws.Tables
set_option linter.unusedVariables false
set_option linter.unusedSimpArgs false
section
-- Written by a program of this session's (wip/gprint.py over the kit's printer).
namespace Go.Proofs.YtgiefblcckikeaaGreat.G
open Go.RowKit Go.Proofs.YtgiefblcckikeaaGreatW.PrintWords Go.Proofs.YtgiefblcckikeaaGreatW.PrintLast Go.Proofs.YtgiefblcckikeaaGreatW.PrintMore
attribute [local go_sem] max2_int min2_int max_two min_two max_three min_three max_four min_four   -- for this text's walks alone
def trivetref04_MsgForm.f (k : Nat) (a0_0 : Int) (a0_1 : Int) (a0_2 : Int) (a0_3 : Int) (a0_4 : Int) (a0_5 : Int) (a0_6 : Int) (a0_7 : Bool) (l0_8 : List (S63)) (a0_9 : Int) (a0_10 : Int) (a0_11 : Int) (l0_12 : List (S26)) (a0_13 : Int) (a0_14 : Int) (a0_15 : Int) (l0_16 : List Int) : Option (List Int) := (trivetref04_num.f k ([] : List Int) (([a0_0, a0_1, a0_2] : List Int))).bind fun t470 => (if a0_0 = 6 then ((trivetref04_EntryForm.f k a0_9 a0_10 a0_11 l0_12).bind fun t473 => (if t470.length + t473.length < 140737488355328 then (some (t470 ++ t473)) else (none))) else (if a0_0 = 1 then ((trivetref04_num.f k t470 (([a0_3, a0_4, a0_5] : List Int))).bind fun t482 => (some t482)) else (if a0_0 = 2 then ((trivetref04_num.f k t470 (([a0_3] : List Int))).bind fun t488 => ((trivetref04_yes.f k t488 a0_7).bind fun t491 => (some t491))) else (if a0_0 = 3 then ((trivetref04_num.f k t470 (([a0_3, a0_4, a0_5, a0_6] : List Int))).bind fun t497 => ((trivetref04_lists.f k t497 l0_8).bind fun t500 => (some t500))) else (if a0_0 = 4 then ((trivetref04_num.f k t470 (([a0_3] : List Int))).bind fun t506 => ((trivetref04_yes.f k t506 a0_7).bind fun t509 => ((trivetref04_num.f k t509 (([a0_4] : List Int))).bind fun t515 => (some t515)))) else ((trivetref04_num.f k t470 (([a0_3, a0_4, a0_5] : List Int))).bind fun t521 => ((trivetref04_PartForm.f k a0_13 a0_14 a0_15 l0_16).bind fun t524 => (if t521.length + t524.length < 140737488355328 then (some (t521 ++ t524)) else (none)))))))))
theorem trivetref04_MsgForm.mono : ∀ a0 a1 a2 a3 a4 a5 a6 a7 a8 a9 a10 a11 a12 a13 a14 a15 a16 k, LeO (trivetref04_MsgForm.f k a0 a1 a2 a3 a4 a5 a6 a7 a8 a9 a10 a11 a12 a13 a14 a15 a16) (trivetref04_MsgForm.f (k + 1) a0 a1 a2 a3 a4 a5 a6 a7 a8 a9 a10 a11 a12 a13 a14 a15 a16) := by
 intro a0 a1 a2 a3 a4 a5 a6 a7 a8 a9 a10 a11 a12 a13 a14 a15 a16 k
 unfold trivetref04_MsgForm.f
 repeat' first
   | (with_reducible exact trivetref04_EntryForm.mono _ _ _ _ _)
   | (with_reducible exact trivetref04_PartForm.mono _ _ _ _ _)
   | (with_reducible exact trivetref04_lists.mono _ _ _)
   | (with_reducible exact trivetref04_num.mono _ _ _)
   | (with_reducible exact trivetref04_yes.mono _ _ _)
   | (with_reducible exact LeO.refl _)
   | (with_reducible exact LeO.none _)
   | (with_reducible refine LeO.ite ?_ ?_)
   | (with_reducible refine LeO.bind ?_ (fun _ => ?_))
   | exact trivetref04_EntryForm.mono _ _ _ _ _
   | exact trivetref04_PartForm.mono _ _ _ _ _
   | exact trivetref04_lists.mono _ _ _
   | exact trivetref04_num.mono _ _ _
   | exact trivetref04_yes.mono _ _ _
   | exact LeO.none _
   | refine LeO.ite ?_ ?_
   | refine LeO.bind ?_ (fun _ => ?_)
def trivetref04_MsgForm.T8 : Bool × List (List Nat × List Nat) := (true, [([], []), ([], []), ([1], [1]), ([2], [2]), ([0, 3], [0, 3]), ([], []), ([5], [5]), ([4, 6, 4], [4, 6]), ([7, 7, 0, 1, 2, 3, 4, 5, 6, 7], [7])])
def trivetref04_MsgForm.B8 : List Nat := [0, 0, 2, 6, 15, 0, 32, 127, 255]
theorem trivetref04_MsgForm.tab8 : rtab .any (opsOf Tryz.f52 8) = trivetref04_MsgForm.T8 := by kernel_rfl
theorem trivetref04_MsgForm.bits8 : waitsOk trivetref04_MsgForm.T8.2 trivetref04_MsgForm.B8 = true := by kernel_rfl
def trivetref04_MsgForm.T10 : Bool × List (List Nat × List Nat) := (true, [([], []), ([], []), ([1], [1]), ([], []), ([3], [3]), ([], []), ([5], [5]), ([], []), ([7], [7]), ([2, 4, 6, 8], [2, 4, 6, 8]), ([0, 9], [0, 9]), ([], []), ([11], [11]), ([10, 12, 10], [10, 12]), ([13, 13, 0, 1, 2, 3, 4, 5, 6, 7, 8, 9, 10, 11, 12, 13], [13])])
def trivetref04_MsgForm.B10 : List Nat := [0, 0, 2, 0, 8, 0, 32, 0, 128, 510, 1023, 0, 2048, 8191, 16383]
theorem trivetref04_MsgForm.tab10 : rtab .any (opsOf Tryz.f52 10) = trivetref04_MsgForm.T10 := by kernel_rfl
theorem trivetref04_MsgForm.bits10 : waitsOk trivetref04_MsgForm.T10.2 trivetref04_MsgForm.B10 = true := by kernel_rfl
def trivetref04_MsgForm.T12 : Bool × List (List Nat × List Nat) := (true, [([], []), ([], []), ([1], [1]), ([2], [2]), ([0, 3], [0, 3]), ([], []), ([5], [5]), ([4, 6, 4], [4, 6]), ([], []), ([8], [8]), ([9], [9]), ([7, 10, 7], [7, 10]), ([11, 11, 0, 1, 2, 3, 4, 5, 6, 7, 8, 9, 10, 11], [11])])
def trivetref04_MsgForm.B12 : List Nat := [0, 0, 2, 6, 15, 0, 32, 127, 0, 256, 768, 2047, 4095]
theorem trivetref04_MsgForm.tab12 : rtab .any (opsOf Tryz.f52 12) = trivetref04_MsgForm.T12 := by kernel_rfl
theorem trivetref04_MsgForm.bits12 : waitsOk trivetref04_MsgForm.T12.2 trivetref04_MsgForm.B12 = true := by kernel_rfl
def trivetref04_MsgForm.T13 : Bool × List (List Nat × List Nat) := (true, [([], []), ([], []), ([1], [1]), ([], []), ([3], [3]), ([], []), ([5], [5]), ([2, 4, 6], [2, 4, 6]), ([0, 7], [0, 7]), ([], []), ([9], [9]), ([10, 8], [10]), ([8, 11, 11], [8, 11]), ([12, 12, 0, 1, 2, 3, 4, 5, 6, 7, 8, 9, 10, 11, 12], [12])])
def trivetref04_MsgForm.B13 : List Nat := [0, 0, 2, 0, 8, 0, 32, 126, 255, 0, 512, 2047, 4095, 8191]
theorem trivetref04_MsgForm.tab13 : rtab .any (opsOf Tryz.f52 13) = trivetref04_MsgForm.T13 := by kernel_rfl
theorem trivetref04_MsgForm.bits13 : waitsOk trivetref04_MsgForm.T13.2 trivetref04_MsgForm.B13 = true := by kernel_rfl
set_option maxHeartbeats 8000000 in
set_option maxRecDepth 100000 in
theorem trivetref04_MsgForm.calls (k : Nat) (a0_0 : Int) (a0_1 : Int) (a0_2 : Int) (a0_3 : Int) (a0_4 : Int) (a0_5 : Int) (a0_6 : Int) (a0_7 : Bool) (A0_8 : Option Addr) (c0_8 : Nat) (l0_8 : List (S63)) (a0_9 : Int) (a0_10 : Int) (a0_11 : Int) (A0_12 : Option Addr) (c0_12 : Nat) (l0_12 : List (S26)) (a0_13 : Int) (a0_14 : Int) (a0_15 : Int) (A0_16 : Option Addr) (c0_16 : Nat) (l0_16 : List Int) (r : List Int) (w : World) (hr0_8 : Kd.C k63 w A0_8 l0_8.length l0_8) (hc0_8 : l0_8.length ≤ c0_8) (hr0_12 : Kd.C k26 w A0_12 l0_12.length l0_12) (hc0_12 : l0_12.length ≤ c0_12) (hr0_16 : Kd.C (Kd.int .u8) w A0_16 l0_16.length l0_16) (hc0_16 : l0_16.length ≤ c0_16) (h : trivetref04_MsgForm.f k a0_0 a0_1 a0_2 a0_3 a0_4 a0_5 a0_6 a0_7 l0_8 a0_9 a0_10 a0_11 l0_12 a0_13 a0_14 a0_15 l0_16 = some r) :
  Calls Tryz.prog 52 #[.agg #[.int .i64 a0_0, .int .i64 a0_1, .int .i64 a0_2, .int .i64 a0_3, .int .i64 a0_4, .int .i64 a0_5, .int .i64 a0_6, .bool a0_7, .slice A0_8 l0_8.length c0_8, .int .i64 a0_9, .int .i64 a0_10, .int .i64 a0_11, .slice A0_12 l0_12.length c0_12, .int .i64 a0_13, .int .i64 a0_14, .int .i64 a0_15, .slice A0_16 l0_16.length c0_16]] w fun e w' => ∃ v0_ : Value, e = .returned (v0_) ∧ Kd.R (Kd.int .u8) 5 w' w.heap.size (fun _ => True) v0_ r ∧ Below w.heap.size w w' := by
 have hu34 := Tryz.underlying34
 have hu29 := Tryz.underlying29
 have hu32 := Tryz.underlying32
 have HR0_8 := Aside0.mk hr0_8
 have HC0_8 := Aside0.mk hc0_8
 clear hr0_8 hc0_8
 have HR0_12 := Aside0.mk hr0_12
 have HC0_12 := Aside0.mk hc0_12
 clear hr0_12 hc0_12
 have HR0_16 := Aside0.mk hr0_16
 have HC0_16 := Aside0.mk hc0_16
 clear hr0_16 hc0_16
 have HB := Aside0.mk (Below.refl w.heap.size w)
 have H : ((trivetref04_num.f k ([] : List Int) (([a0_0, a0_1, a0_2] : List Int))).bind fun t470 => (if a0_0 = 6 then ((trivetref04_EntryForm.f k a0_9 a0_10 a0_11 l0_12).bind fun t473 => (if t470.length + t473.length < 140737488355328 then (some (t470 ++ t473)) else (none))) else (if a0_0 = 1 then ((trivetref04_num.f k t470 (([a0_3, a0_4, a0_5] : List Int))).bind fun t482 => (some t482)) else (if a0_0 = 2 then ((trivetref04_num.f k t470 (([a0_3] : List Int))).bind fun t488 => ((trivetref04_yes.f k t488 a0_7).bind fun t491 => (some t491))) else (if a0_0 = 3 then ((trivetref04_num.f k t470 (([a0_3, a0_4, a0_5, a0_6] : List Int))).bind fun t497 => ((trivetref04_lists.f k t497 l0_8).bind fun t500 => (some t500))) else (if a0_0 = 4 then ((trivetref04_num.f k t470 (([a0_3] : List Int))).bind fun t506 => ((trivetref04_yes.f k t506 a0_7).bind fun t509 => ((trivetref04_num.f k t509 (([a0_4] : List Int))).bind fun t515 => (some t515)))) else ((trivetref04_num.f k t470 (([a0_3, a0_4, a0_5] : List Int))).bind fun t521 => ((trivetref04_PartForm.f k a0_13 a0_14 a0_15 l0_16).bind fun t524 => (if t521.length + t524.length < 140737488355328 then (some (t521 ++ t524)) else (none)))))))))) = some r := h
 clear h
 obtain ⟨y467, hy467⟩ : ∃ y_ : List Int, y_ = (([a0_0, a0_1, a0_2] : List Int)) := ⟨_, rfl⟩
 replace H : ((trivetref04_num.f k ([] : List Int) y467).bind fun t470 => (if a0_0 = 6 then ((trivetref04_EntryForm.f k a0_9 a0_10 a0_11 l0_12).bind fun t473 => (if t470.length + t473.length < 140737488355328 then (some (t470 ++ t473)) else (none))) else (if a0_0 = 1 then ((trivetref04_num.f k t470 (([a0_3, a0_4, a0_5] : List Int))).bind fun t482 => (some t482)) else (if a0_0 = 2 then ((trivetref04_num.f k t470 (([a0_3] : List Int))).bind fun t488 => ((trivetref04_yes.f k t488 a0_7).bind fun t491 => (some t491))) else (if a0_0 = 3 then ((trivetref04_num.f k t470 (([a0_3, a0_4, a0_5, a0_6] : List Int))).bind fun t497 => ((trivetref04_lists.f k t497 l0_8).bind fun t500 => (some t500))) else (if a0_0 = 4 then ((trivetref04_num.f k t470 (([a0_3] : List Int))).bind fun t506 => ((trivetref04_yes.f k t506 a0_7).bind fun t509 => ((trivetref04_num.f k t509 (([a0_4] : List Int))).bind fun t515 => (some t515)))) else ((trivetref04_num.f k t470 (([a0_3, a0_4, a0_5] : List Int))).bind fun t521 => ((trivetref04_PartForm.f k a0_13 a0_14 a0_15 l0_16).bind fun t524 => (if t521.length + t524.length < 140737488355328 then (some (t521 ++ t524)) else (none)))))))))) = some r := by first | (rw [hy467]; with_reducible exact H) | (have H2_ := (Option.bind_some _ _).symm.trans H; rw [hy467]; with_reducible exact H2_) | (have H2_ := (Option.bind_some _ _).symm.trans H; with_reducible exact H2_) | with_reducible exact H | (rw [hy467]; exact H) | exact H
 have Ny467 := Aside0.mk hy467
 clear hy467
 replace H := Option.bind_eq_some_iff.mp H
 obtain ⟨t470, A20, H⟩ := H
 replace H : (if a0_0 = 6 then ((trivetref04_EntryForm.f k a0_9 a0_10 a0_11 l0_12).bind fun t473 => (if t470.length + t473.length < 140737488355328 then (some (t470 ++ t473)) else (none))) else (if a0_0 = 1 then ((trivetref04_num.f k t470 (([a0_3, a0_4, a0_5] : List Int))).bind fun t482 => (some t482)) else (if a0_0 = 2 then ((trivetref04_num.f k t470 (([a0_3] : List Int))).bind fun t488 => ((trivetref04_yes.f k t488 a0_7).bind fun t491 => (some t491))) else (if a0_0 = 3 then ((trivetref04_num.f k t470 (([a0_3, a0_4, a0_5, a0_6] : List Int))).bind fun t497 => ((trivetref04_lists.f k t497 l0_8).bind fun t500 => (some t500))) else (if a0_0 = 4 then ((trivetref04_num.f k t470 (([a0_3] : List Int))).bind fun t506 => ((trivetref04_yes.f k t506 a0_7).bind fun t509 => ((trivetref04_num.f k t509 (([a0_4] : List Int))).bind fun t515 => (some t515)))) else ((trivetref04_num.f k t470 (([a0_3, a0_4, a0_5] : List Int))).bind fun t521 => ((trivetref04_PartForm.f k a0_13 a0_14 a0_15 l0_16).bind fun t524 => (if t521.length + t524.length < 140737488355328 then (some (t521 ++ t524)) else (none))))))))) = some r := H
 have A2 := Aside0.mk A20
 clear A20
 by_cases c3 : a0_0 = 6
 ·rw [if_pos c3] at H
  have c3b0 : (a0_0 == 6) = true := beq_iff_eq.mpr c3
  have c3b1 : (a0_0 != 6) = false := bne_eq_false_iff_eq.mpr c3
  clear c3
  replace H := Option.bind_eq_some_iff.mp H
  obtain ⟨t473, A40, H⟩ := H
  replace H : (if t470.length + t473.length < 140737488355328 then (some (t470 ++ t473)) else (none)) = some r := H
  have A4 := Aside0.mk A40
  clear A40
  by_cases c5 : t470.length + t473.length < 140737488355328
  ·rw [if_pos c5] at H
   have LMc5 := Aside0.mk c5
   clear c5
   obtain ⟨y476, hy476⟩ : ∃ y_ : List Int, y_ = (t470 ++ t473) := ⟨_, rfl⟩
   replace H : (some y476) = some r := by first | (rw [hy476]; with_reducible exact H) | (have H2_ := (Option.bind_some _ _).symm.trans H; rw [hy476]; with_reducible exact H2_) | (have H2_ := (Option.bind_some _ _).symm.trans H; with_reducible exact H2_) | with_reducible exact H | (rw [hy476]; exact H) | exact H
   have Ny476 := Aside0.mk hy476
   clear hy476
   obtain rfl := Option.some.inj H
   go_enter Tryz.func52, Tryz.ntmps52
   go_wp2_with (first | ((with_reducible refine gate_dst (N := 1) rfl ?_); refine box_event ?hg (N := 1) ?hd (cs := #[.int .i64 a0_0, .int .i64 a0_1, .int .i64 a0_2, .int .i64 a0_3, .int .i64 a0_4, .int .i64 a0_5, .int .i64 a0_6, .bool a0_7, .slice A0_8 l0_8.length c0_8, .int .i64 a0_9, .int .i64 a0_10, .int .i64 a0_11, .slice A0_12 l0_12.length c0_12, .int .i64 a0_13, .int .i64 a0_14, .int .i64 a0_15, .slice A0_16 l0_16.length c0_16]) (t := 34) ?hr ?_; (case hd => rfl); (case hg => rfl); (case hr => first | (go_simp; done) | (go_simp; rfl)); intro gb466 hg w6 hbox hb; have n0_ := Aside0.mk (below_step (stB HB.out) hb); have n1_ := Aside0.mk (hbox); have n2_ := Aside0.mk ((by rw [hg]; exact (below_size (stB HB.out)) : w.heap.size ≤ gb466)); have n3_ := Aside0.mk ((by rw [hg]; exact (below_size (stB HB.out)) : w.heap.size ≤ gb466)); clear HB; have HB := n0_; have BK466 := n1_; have GW466 := n2_; have GE466 := n3_; clear n0_ n1_ n2_ n3_; clear hb hbox hg; obtain ⟨hcz7_0, hcz7_1, hcz7_2, hcz7_3, hcz7_4, hcz7_5, hcz7_6, hcz7_7, hcz7_8, hcz7_9, hcz7_10, hcz7_11, hcz7_12, hcz7_13, hcz7_14, hcz7_15, hcz7_16⟩ := bc17 BK466.out; obtain ⟨hfz7_0, hfz7_1, hfz7_2, hfz7_3, hfz7_4, hfz7_5, hfz7_6, hfz7_7, hfz7_8, hfz7_9, hfz7_10, hfz7_11, hfz7_12, hfz7_13, hfz7_14, hfz7_15, hfz7_16⟩ := bf17 BK466.out) | ((with_reducible refine gate_dst (N := 10) rfl ?_); refine Kd.R_lit (Kd.int .i64) _ 2 ?hg (N := 10) ?hd (xs := ([a0_0, a0_1, a0_2] : List Int)) (inner := [.int .i64 a0_0, .int .i64 a0_1, .int .i64 a0_2]) (ok := fun _ => True) (okp := fun _ => True) ?hr ?hp (fun _ hk => hk) trivial (Below.refl _ _) (Nat.le_refl _) (by simp) ?_; (case hd => rfl); (case hg => rfl); (case hr => first | (go_simp; done) | (go_simp; rfl)); (case hp => exact (Reps.one (show Kd.M (Kd.int .i64) _ _ _ a0_0 [.int .i64 a0_0] from rfl) (Reps.one (show Kd.M (Kd.int .i64) _ _ _ a0_1 [.int .i64 a0_1] from rfl) (Reps.one (show Kd.M (Kd.int .i64) _ _ _ a0_2 [.int .i64 a0_2] from rfl) (Reps.none _ _))))); intro v468 w8 ho9 hb hg_ hnew_; clear hg_ hnew_; (first | rw [← Ny467.out] at ho9 | (simp only [Int.reduceToNat] at ho9; rw [← Ny467.out] at ho9)); have n0_ := Aside0.mk (Kd.R_lower ho9 (below_size (by repeat (first | (with_reducible first | exact HB.out | apply below_alloc | apply pw_below_drewN | apply below_drew1 | refine below_set ?_ GE466.out) | exact HB.out)))); have n1_ := Aside0.mk (blk_below (g := gb466) (o := .cells #[.int .i64 a0_0, .int .i64 a0_1, .int .i64 a0_2, .int .i64 a0_3, .int .i64 a0_4, .int .i64 a0_5, .int .i64 a0_6, .bool a0_7, .slice A0_8 l0_8.length c0_8, .int .i64 a0_9, .int .i64 a0_10, .int .i64 a0_11, .slice A0_12 l0_12.length c0_12, .int .i64 a0_13, .int .i64 a0_14, .int .i64 a0_15, .slice A0_16 l0_16.length c0_16] 34 (0, 0)) (stK BK466.out) hb); have n2_ := Aside0.mk (below_step (by repeat (first | (with_reducible first | exact HB.out | apply below_alloc | apply pw_below_drewN | apply below_drew1 | refine below_set ?_ GE466.out) | exact HB.out)) hb); clear BK466; clear HB; have HO469 := n0_; have BK466 := n1_; have HB := n2_; clear n0_ n1_ n2_; clear hb ho9; obtain ⟨Ao10, co10, eo10⟩ := Kd.R_slice HO469.out; subst eo10) | ((with_reducible refine gate_callee (f := 97) rfl ?_); refine goesL_ (some 11) rfl rfl Tryz.func97 (by kernel_rfl) rfl #[.slice none 0 0, .slice Ao10 y467.length co10] rfl (by (try simp only [List.map_toArray, List.map_cons, List.map_nil]); first | done | rfl | (simp only [List.length_drop, List.length_take]; rfl)) ?_; (refine (trivetref04_num.calls k _ _ ([] : List Int) _ _ y467 t470 _ ?side1 ?side2 ?side3 ?side4 A2.out).mono ?_); (case side1 => exact Kd.C_nil _ _); (case side2 => exact Nat.le_refl _); (case side3 => exact stC ((Kd.R_reads' HO469.out).2.2)); (case side4 => exact (Kd.R_reads' HO469.out).2.1); rintro e w11 ⟨v471, rfl, ho0, hb⟩; refine ⟨_, rfl, ?_⟩; have n0_ := Aside0.mk (Kd.R_below (stR HO469.out) hb); have n1_ := Aside0.mk (Kd.R_lower ho0 (below_size (by repeat (first | (with_reducible first | exact HB.out | apply below_alloc | apply pw_below_drewN | apply below_drew1 | refine below_set ?_ GE466.out) | exact HB.out)))); have n2_ := Aside0.mk (blk_below (g := gb466) (o := .cells #[.int .i64 a0_0, .int .i64 a0_1, .int .i64 a0_2, .int .i64 a0_3, .int .i64 a0_4, .int .i64 a0_5, .int .i64 a0_6, .bool a0_7, .slice A0_8 l0_8.length c0_8, .int .i64 a0_9, .int .i64 a0_10, .int .i64 a0_11, .slice A0_12 l0_12.length c0_12, .int .i64 a0_13, .int .i64 a0_14, .int .i64 a0_15, .slice A0_16 l0_16.length c0_16] 34 (0, 0)) (stK BK466.out) hb); have n3_ := Aside0.mk (below_step (by repeat (first | (with_reducible first | exact HB.out | apply below_alloc | apply pw_below_drewN | apply below_drew1 | refine below_set ?_ GE466.out) | exact HB.out)) hb); clear HO469; clear BK466; clear HB; have HO469 := n0_; have HO472 := n1_; have BK466 := n2_; have HB := n3_; clear n0_ n1_ n2_ n3_; (try clear hb); (try clear hb2); (try clear hk); (try clear hi); (try clear ho0); obtain ⟨hcz12_0, hcz12_1, hcz12_2, hcz12_3, hcz12_4, hcz12_5, hcz12_6, hcz12_7, hcz12_8, hcz12_9, hcz12_10, hcz12_11, hcz12_12, hcz12_13, hcz12_14, hcz12_15, hcz12_16⟩ := bc17 BK466.out; obtain ⟨hfz12_0, hfz12_1, hfz12_2, hfz12_3, hfz12_4, hfz12_5, hfz12_6, hfz12_7, hfz12_8, hfz12_9, hfz12_10, hfz12_11, hfz12_12, hfz12_13, hfz12_14, hfz12_15, hfz12_16⟩ := bf17 BK466.out) | ((with_reducible refine gate_callee (f := 49) rfl ?_); refine goesL_ (some 19) rfl rfl Tryz.func49 (by kernel_rfl) rfl #[.agg #[.int .i64 a0_9, .int .i64 a0_10, .int .i64 a0_11, .slice A0_12 l0_12.length c0_12]] rfl (by (try simp only [List.map_toArray, List.map_cons, List.map_nil]); first | done | rfl | (simp only [List.length_drop, List.length_take]; rfl)) ?_; (with_reducible refine (trivetref04_EntryForm.calls k a0_9 a0_10 a0_11 _ _ l0_12 t473 _ ?side1 ?side2 A4.out).mono ?_); (case side1 => exact stC (Kd.C_below HR0_12.out HB.out)); (case side2 => exact HC0_12.out); rintro e w13 ⟨v474, rfl, ho0, hb⟩; refine ⟨_, rfl, ?_⟩; have n0_ := Aside0.mk (Kd.R_below (stR HO469.out) hb); have n1_ := Aside0.mk (Kd.R_elder' (stR HO472.out) (Kd.R_base ho0) hb); have n2_ := Aside0.mk (Kd.R_lower (Kd.R_new' ho0 (Kd.R_lt (stR HO472.out))) (below_size (by repeat (first | (with_reducible first | exact HB.out | apply below_alloc | apply pw_below_drewN | apply below_drew1 | refine below_set ?_ GE466.out) | exact HB.out)))); have n3_ := Aside0.mk (blk_below (g := gb466) (o := .cells #[.int .i64 a0_0, .int .i64 a0_1, .int .i64 a0_2, .int .i64 a0_3, .int .i64 a0_4, .int .i64 a0_5, .int .i64 a0_6, .bool a0_7, .slice A0_8 l0_8.length c0_8, .int .i64 a0_9, .int .i64 a0_10, .int .i64 a0_11, .slice A0_12 l0_12.length c0_12, .int .i64 a0_13, .int .i64 a0_14, .int .i64 a0_15, .slice A0_16 l0_16.length c0_16] 34 (0, 0)) (stK BK466.out) hb); have n4_ := Aside0.mk (below_step (by repeat (first | (with_reducible first | exact HB.out | apply below_alloc | apply pw_below_drewN | apply below_drew1 | refine below_set ?_ GE466.out) | exact HB.out)) hb); clear HO469; clear HO472; clear BK466; clear HB; have HO469 := n0_; have HO472 := n1_; have HO475 := n2_; have BK466 := n3_; have HB := n4_; clear n0_ n1_ n2_ n3_ n4_; (try clear hb); (try clear hb2); (try clear hk); (try clear hi); (try clear ho0); obtain ⟨Ao15, co15, eo15⟩ := Kd.R_slice HO475.out; subst eo15) | ((with_reducible refine gate_builtin (b := .append) (xs := #[.tmp 16, .tmp 19]) rfl ?_); at_builtin; refine Kd.R_append_rows (Kd.int .u8) (w0 := w) w.heap.size rfl (.tmp 16) (.tmp 19) 23 5 (.int .u8 0) 1 rfl Tryz.underlying23 info5 rfl (by decide) (by omega) v471 t470 t473 _ _ _ (fun k_ => some k_ ≠ (.slice Ao15 t473.length co15 : Value).ownBlock) (fun _ => False) rfl rfl ?aO ?aR (fun _ _ h => h) (fun _ h => h.elim) ?aF ?aB ?aS ?aL ?_; (case aR => exact stC ((Kd.R_reads' HO475.out).2.2)); (case aB => exact (by repeat (first | (with_reducible first | exact HB.out | apply below_alloc | apply pw_below_drewN | apply below_drew1 | refine below_set ?_ GE466.out) | exact HB.out))); (case aF => exact (fun k_ hk => Kd.fresh' (Kd.R_lt (stR HO475.out)) k_ hk)); (case aO => exact (by (with_reducible repeat (first|apply Kd.R_alloc | apply Kd.R_drewN | apply Kd.R_drew)); exact Kd.R_mono HO472.out (fun _ hk => hk.2))); (case aS => exact (below_size (by repeat (first | (with_reducible first | exact HB.out | apply below_alloc | apply pw_below_drewN | apply below_drew1 | refine below_set ?_ GE466.out) | exact HB.out)))); (case aL => have := LMc5.out; omega); intro v477 w14 ho hb hg hat; rw [← Ny476.out] at ho; have n0_ := Aside0.mk (blk_grown (g := gb466) (o := .cells #[.int .i64 a0_0, .int .i64 a0_1, .int .i64 a0_2, .int .i64 a0_3, .int .i64 a0_4, .int .i64 a0_5, .int .i64 a0_6, .bool a0_7, .slice A0_8 l0_8.length c0_8, .int .i64 a0_9, .int .i64 a0_10, .int .i64 a0_11, .slice A0_12 l0_12.length c0_12, .int .i64 a0_13, .int .i64 a0_14, .int .i64 a0_15, .slice A0_16 l0_16.length c0_16] 34 (0, 0)) (stK BK466.out) hg (Kd.R_ne HO472.out BK466.out (by decide))); have n1_ := Aside0.mk (Kd.R_over' (stR HO469.out) (Kd.R_typed (stR HO472.out)) (by decide) hg); have n2_ := Aside0.mk (Kd.R_after (ok := (fun _ => True)) (stR HO475.out) hg hat); have n3_ := Aside0.mk (hb); have n4_ := Aside0.mk (ho); clear BK466; clear HO469; clear HO475; clear HB; clear HO472; have BK466 := n0_; have HO469 := n1_; have HO475 := n2_; have HB := n3_; have HO478 := n4_; clear n0_ n1_ n2_ n3_ n4_; clear ho hb hg hat))
   go_ret
   exact ⟨_, by first | rfl | (simp [errW_none, errW_some] <;> rfl) | (simp [*, errW_none, errW_some] <;> rfl), by (with_reducible repeat (first|apply Kd.R_alloc | apply Kd.R_drewN | apply Kd.R_drew)); exact Kd.R_mono HO478.out (fun _ hk => trivial), by repeat (first | (with_reducible first | exact HB.out | apply below_alloc | apply pw_below_drewN | apply below_drew1 | refine below_set ?_ GE466.out) | exact HB.out)⟩
  ·rw [if_neg c5] at H
   exact absurd H (by simp)
 ·rw [if_neg c3] at H
  have c3b0 : (a0_0 == 6) = false := beq_eq_false_iff_ne.mpr c3
  have c3b1 : (a0_0 != 6) = true := bne_iff_ne.mpr c3
  by_cases c16 : a0_0 = 1
  ·rw [if_pos c16] at H
   have c16b0 : (a0_0 == 1) = true := beq_iff_eq.mpr c16
   have c16b1 : (a0_0 != 1) = false := bne_eq_false_iff_eq.mpr c16
   clear c16
   obtain ⟨y479, hy479⟩ : ∃ y_ : List Int, y_ = (([a0_3, a0_4, a0_5] : List Int)) := ⟨_, rfl⟩
   replace H : ((trivetref04_num.f k t470 y479).bind fun t482 => (some t482)) = some r := by first | (rw [hy479]; with_reducible exact H) | (have H2_ := (Option.bind_some _ _).symm.trans H; rw [hy479]; with_reducible exact H2_) | (have H2_ := (Option.bind_some _ _).symm.trans H; with_reducible exact H2_) | with_reducible exact H | (rw [hy479]; exact H) | exact H
   have Ny479 := Aside0.mk hy479
   clear hy479
   replace H := Option.bind_eq_some_iff.mp H
   obtain ⟨t482, A170, H⟩ := H
   replace H : (some t482) = some r := H
   have A17 := Aside0.mk A170
   clear A170
   obtain rfl := Option.some.inj H
   go_enter Tryz.func52, Tryz.ntmps52
   go_wp2_with (first | ((with_reducible refine gate_dst (N := 1) rfl ?_); refine box_event ?hg (N := 1) ?hd (cs := #[.int .i64 a0_0, .int .i64 a0_1, .int .i64 a0_2, .int .i64 a0_3, .int .i64 a0_4, .int .i64 a0_5, .int .i64 a0_6, .bool a0_7, .slice A0_8 l0_8.length c0_8, .int .i64 a0_9, .int .i64 a0_10, .int .i64 a0_11, .slice A0_12 l0_12.length c0_12, .int .i64 a0_13, .int .i64 a0_14, .int .i64 a0_15, .slice A0_16 l0_16.length c0_16]) (t := 34) ?hr ?_; (case hd => rfl); (case hg => rfl); (case hr => first | (go_simp; done) | (go_simp; rfl)); intro gb466 hg w18 hbox hb; have n0_ := Aside0.mk (below_step (stB HB.out) hb); have n1_ := Aside0.mk (hbox); have n2_ := Aside0.mk ((by rw [hg]; exact (below_size (stB HB.out)) : w.heap.size ≤ gb466)); have n3_ := Aside0.mk ((by rw [hg]; exact (below_size (stB HB.out)) : w.heap.size ≤ gb466)); clear HB; have HB := n0_; have BK466 := n1_; have GW466 := n2_; have GE466 := n3_; clear n0_ n1_ n2_ n3_; clear hb hbox hg; obtain ⟨hcz19_0, hcz19_1, hcz19_2, hcz19_3, hcz19_4, hcz19_5, hcz19_6, hcz19_7, hcz19_8, hcz19_9, hcz19_10, hcz19_11, hcz19_12, hcz19_13, hcz19_14, hcz19_15, hcz19_16⟩ := bc17 BK466.out; obtain ⟨hfz19_0, hfz19_1, hfz19_2, hfz19_3, hfz19_4, hfz19_5, hfz19_6, hfz19_7, hfz19_8, hfz19_9, hfz19_10, hfz19_11, hfz19_12, hfz19_13, hfz19_14, hfz19_15, hfz19_16⟩ := bf17 BK466.out) | ((with_reducible refine gate_dst (N := 10) rfl ?_); refine Kd.R_lit (Kd.int .i64) _ 2 ?hg (N := 10) ?hd (xs := ([a0_0, a0_1, a0_2] : List Int)) (inner := [.int .i64 a0_0, .int .i64 a0_1, .int .i64 a0_2]) (ok := fun _ => True) (okp := fun _ => True) ?hr ?hp (fun _ hk => hk) trivial (Below.refl _ _) (Nat.le_refl _) (by simp) ?_; (case hd => rfl); (case hg => rfl); (case hr => first | (go_simp; done) | (go_simp; rfl)); (case hp => exact (Reps.one (show Kd.M (Kd.int .i64) _ _ _ a0_0 [.int .i64 a0_0] from rfl) (Reps.one (show Kd.M (Kd.int .i64) _ _ _ a0_1 [.int .i64 a0_1] from rfl) (Reps.one (show Kd.M (Kd.int .i64) _ _ _ a0_2 [.int .i64 a0_2] from rfl) (Reps.none _ _))))); intro v468 w20 ho21 hb hg_ hnew_; clear hg_ hnew_; (first | rw [← Ny467.out] at ho21 | (simp only [Int.reduceToNat] at ho21; rw [← Ny467.out] at ho21)); have n0_ := Aside0.mk (Kd.R_lower ho21 (below_size (by repeat (first | (with_reducible first | exact HB.out | apply below_alloc | apply pw_below_drewN | apply below_drew1 | refine below_set ?_ GE466.out) | exact HB.out)))); have n1_ := Aside0.mk (blk_below (g := gb466) (o := .cells #[.int .i64 a0_0, .int .i64 a0_1, .int .i64 a0_2, .int .i64 a0_3, .int .i64 a0_4, .int .i64 a0_5, .int .i64 a0_6, .bool a0_7, .slice A0_8 l0_8.length c0_8, .int .i64 a0_9, .int .i64 a0_10, .int .i64 a0_11, .slice A0_12 l0_12.length c0_12, .int .i64 a0_13, .int .i64 a0_14, .int .i64 a0_15, .slice A0_16 l0_16.length c0_16] 34 (0, 0)) (stK BK466.out) hb); have n2_ := Aside0.mk (below_step (by repeat (first | (with_reducible first | exact HB.out | apply below_alloc | apply pw_below_drewN | apply below_drew1 | refine below_set ?_ GE466.out) | exact HB.out)) hb); clear BK466; clear HB; have HO469 := n0_; have BK466 := n1_; have HB := n2_; clear n0_ n1_ n2_; clear hb ho21; obtain ⟨Ao22, co22, eo22⟩ := Kd.R_slice HO469.out; subst eo22) | ((with_reducible refine gate_callee (f := 97) rfl ?_); refine goesL_ (some 11) rfl rfl Tryz.func97 (by kernel_rfl) rfl #[.slice none 0 0, .slice Ao22 y467.length co22] rfl (by (try simp only [List.map_toArray, List.map_cons, List.map_nil]); first | done | rfl | (simp only [List.length_drop, List.length_take]; rfl)) ?_; (refine (trivetref04_num.calls k _ _ ([] : List Int) _ _ y467 t470 _ ?side1 ?side2 ?side3 ?side4 A2.out).mono ?_); (case side1 => exact Kd.C_nil _ _); (case side2 => exact Nat.le_refl _); (case side3 => exact stC ((Kd.R_reads' HO469.out).2.2)); (case side4 => exact (Kd.R_reads' HO469.out).2.1); rintro e w23 ⟨v471, rfl, ho0, hb⟩; refine ⟨_, rfl, ?_⟩; have n0_ := Aside0.mk (Kd.R_below (stR HO469.out) hb); have n1_ := Aside0.mk (Kd.R_lower ho0 (below_size (by repeat (first | (with_reducible first | exact HB.out | apply below_alloc | apply pw_below_drewN | apply below_drew1 | refine below_set ?_ GE466.out) | exact HB.out)))); have n2_ := Aside0.mk (blk_below (g := gb466) (o := .cells #[.int .i64 a0_0, .int .i64 a0_1, .int .i64 a0_2, .int .i64 a0_3, .int .i64 a0_4, .int .i64 a0_5, .int .i64 a0_6, .bool a0_7, .slice A0_8 l0_8.length c0_8, .int .i64 a0_9, .int .i64 a0_10, .int .i64 a0_11, .slice A0_12 l0_12.length c0_12, .int .i64 a0_13, .int .i64 a0_14, .int .i64 a0_15, .slice A0_16 l0_16.length c0_16] 34 (0, 0)) (stK BK466.out) hb); have n3_ := Aside0.mk (below_step (by repeat (first | (with_reducible first | exact HB.out | apply below_alloc | apply pw_below_drewN | apply below_drew1 | refine below_set ?_ GE466.out) | exact HB.out)) hb); clear HO469; clear BK466; clear HB; have HO469 := n0_; have HO472 := n1_; have BK466 := n2_; have HB := n3_; clear n0_ n1_ n2_ n3_; (try clear hb); (try clear hb2); (try clear hk); (try clear hi); (try clear ho0); obtain ⟨hcz24_0, hcz24_1, hcz24_2, hcz24_3, hcz24_4, hcz24_5, hcz24_6, hcz24_7, hcz24_8, hcz24_9, hcz24_10, hcz24_11, hcz24_12, hcz24_13, hcz24_14, hcz24_15, hcz24_16⟩ := bc17 BK466.out; obtain ⟨hfz24_0, hfz24_1, hfz24_2, hfz24_3, hfz24_4, hfz24_5, hfz24_6, hfz24_7, hfz24_8, hfz24_9, hfz24_10, hfz24_11, hfz24_12, hfz24_13, hfz24_14, hfz24_15, hfz24_16⟩ := bf17 BK466.out) | ((with_reducible refine gate_dst (N := 30) rfl ?_); refine Kd.R_lit (Kd.int .i64) _ 2 ?hg (N := 30) ?hd (xs := ([a0_3, a0_4, a0_5] : List Int)) (inner := [.int .i64 a0_3, .int .i64 a0_4, .int .i64 a0_5]) (ok := fun _ => True) (okp := fun _ => True) ?hr ?hp (fun _ hk => hk) trivial (Below.refl _ _) (Nat.le_refl _) (by simp) ?_; (case hd => rfl); (case hg => rfl); (case hr => first | (go_simp; done) | (go_simp; rfl)); (case hp => exact (Reps.one (show Kd.M (Kd.int .i64) _ _ _ a0_3 [.int .i64 a0_3] from rfl) (Reps.one (show Kd.M (Kd.int .i64) _ _ _ a0_4 [.int .i64 a0_4] from rfl) (Reps.one (show Kd.M (Kd.int .i64) _ _ _ a0_5 [.int .i64 a0_5] from rfl) (Reps.none _ _))))); intro v480 w25 ho26 hb hg_ hnew_; clear hg_ hnew_; (first | rw [← Ny479.out] at ho26 | (simp only [Int.reduceToNat] at ho26; rw [← Ny479.out] at ho26)); have n0_ := Aside0.mk (Kd.R_elder' (stR HO469.out) (Kd.R_base ho26) hb); have n1_ := Aside0.mk (Kd.R_below (stR HO472.out) hb); have n2_ := Aside0.mk (Kd.R_lower (Kd.R_new' ho26 (Kd.R_lt (stR HO469.out))) (below_size (by repeat (first | (with_reducible first | exact HB.out | apply below_alloc | apply pw_below_drewN | apply below_drew1 | refine below_set ?_ GE466.out) | exact HB.out)))); have n3_ := Aside0.mk (blk_below (g := gb466) (o := .cells #[.int .i64 a0_0, .int .i64 a0_1, .int .i64 a0_2, .int .i64 a0_3, .int .i64 a0_4, .int .i64 a0_5, .int .i64 a0_6, .bool a0_7, .slice A0_8 l0_8.length c0_8, .int .i64 a0_9, .int .i64 a0_10, .int .i64 a0_11, .slice A0_12 l0_12.length c0_12, .int .i64 a0_13, .int .i64 a0_14, .int .i64 a0_15, .slice A0_16 l0_16.length c0_16] 34 (0, 0)) (stK BK466.out) hb); have n4_ := Aside0.mk (below_step (by repeat (first | (with_reducible first | exact HB.out | apply below_alloc | apply pw_below_drewN | apply below_drew1 | refine below_set ?_ GE466.out) | exact HB.out)) hb); clear HO469; clear HO472; clear BK466; clear HB; have HO469 := n0_; have HO472 := n1_; have HO481 := n2_; have BK466 := n3_; have HB := n4_; clear n0_ n1_ n2_ n3_ n4_; clear hb ho26; obtain ⟨Ao27, co27, eo27⟩ := Kd.R_slice HO472.out; subst eo27; obtain ⟨Ao28, co28, eo28⟩ := Kd.R_slice HO481.out; subst eo28) | ((with_reducible refine gate_callee (f := 97) rfl ?_); refine goesL_ (some 31) rfl rfl Tryz.func97 (by kernel_rfl) rfl #[.slice Ao27 t470.length co27, .slice Ao28 y479.length co28] rfl (by (try simp only [List.map_toArray, List.map_cons, List.map_nil]); first | done | rfl | (simp only [List.length_drop, List.length_take]; rfl)) ?_; (with_reducible refine (trivetref04_num.calls k _ _ t470 _ _ y479 t482 _ ?side1 ?side2 ?side3 ?side4 A17.out).mono ?_); (case side1 => exact stC ((Kd.R_reads' HO472.out).2.2)); (case side2 => exact (Kd.R_reads' HO472.out).2.1); (case side3 => exact stC ((Kd.R_reads' HO481.out).2.2)); (case side4 => exact (Kd.R_reads' HO481.out).2.1); rintro e w29 ⟨v483, rfl, ho0, hb⟩; refine ⟨_, rfl, ?_⟩; have n0_ := Aside0.mk (Kd.R_below (stR HO469.out) hb); have n1_ := Aside0.mk (Kd.R_elder' (stR HO472.out) (Kd.R_base ho0) hb); have n2_ := Aside0.mk (Kd.R_below (stR HO481.out) hb); have n3_ := Aside0.mk (Kd.R_lower (Kd.R_new' ho0 (Kd.R_lt (stR HO472.out))) (below_size (by repeat (first | (with_reducible first | exact HB.out | apply below_alloc | apply pw_below_drewN | apply below_drew1 | refine below_set ?_ GE466.out) | exact HB.out)))); have n4_ := Aside0.mk (blk_below (g := gb466) (o := .cells #[.int .i64 a0_0, .int .i64 a0_1, .int .i64 a0_2, .int .i64 a0_3, .int .i64 a0_4, .int .i64 a0_5, .int .i64 a0_6, .bool a0_7, .slice A0_8 l0_8.length c0_8, .int .i64 a0_9, .int .i64 a0_10, .int .i64 a0_11, .slice A0_12 l0_12.length c0_12, .int .i64 a0_13, .int .i64 a0_14, .int .i64 a0_15, .slice A0_16 l0_16.length c0_16] 34 (0, 0)) (stK BK466.out) hb); have n5_ := Aside0.mk (below_step (by repeat (first | (with_reducible first | exact HB.out | apply below_alloc | apply pw_below_drewN | apply below_drew1 | refine below_set ?_ GE466.out) | exact HB.out)) hb); clear HO469; clear HO472; clear HO481; clear BK466; clear HB; have HO469 := n0_; have HO472 := n1_; have HO481 := n2_; have HO484 := n3_; have BK466 := n4_; have HB := n5_; clear n0_ n1_ n2_ n3_ n4_ n5_; (try clear hb); (try clear hb2); (try clear hk); (try clear hi); (try clear ho0)))
   go_ret
   exact ⟨_, by first | rfl | (simp [errW_none, errW_some] <;> rfl) | (simp [*, errW_none, errW_some] <;> rfl), by (with_reducible repeat (first|apply Kd.R_alloc | apply Kd.R_drewN | apply Kd.R_drew)); exact Kd.R_mono HO484.out (fun _ hk => trivial), by repeat (first | (with_reducible first | exact HB.out | apply below_alloc | apply pw_below_drewN | apply below_drew1 | refine below_set ?_ GE466.out) | exact HB.out)⟩
  ·rw [if_neg c16] at H
   have c16b0 : (a0_0 == 1) = false := beq_eq_false_iff_ne.mpr c16
   have c16b1 : (a0_0 != 1) = true := bne_iff_ne.mpr c16
   by_cases c30 : a0_0 = 2
   ·rw [if_pos c30] at H
    have c30b0 : (a0_0 == 2) = true := beq_iff_eq.mpr c30
    have c30b1 : (a0_0 != 2) = false := bne_eq_false_iff_eq.mpr c30
    clear c30
    obtain ⟨y485, hy485⟩ : ∃ y_ : List Int, y_ = (([a0_3] : List Int)) := ⟨_, rfl⟩
    replace H : ((trivetref04_num.f k t470 y485).bind fun t488 => ((trivetref04_yes.f k t488 a0_7).bind fun t491 => (some t491))) = some r := by first | (rw [hy485]; with_reducible exact H) | (have H2_ := (Option.bind_some _ _).symm.trans H; rw [hy485]; with_reducible exact H2_) | (have H2_ := (Option.bind_some _ _).symm.trans H; with_reducible exact H2_) | with_reducible exact H | (rw [hy485]; exact H) | exact H
    have Ny485 := Aside0.mk hy485
    clear hy485
    replace H := Option.bind_eq_some_iff.mp H
    obtain ⟨t488, A310, H⟩ := H
    replace H : ((trivetref04_yes.f k t488 a0_7).bind fun t491 => (some t491)) = some r := H
    have A31 := Aside0.mk A310
    clear A310
    replace H := Option.bind_eq_some_iff.mp H
    obtain ⟨t491, A320, H⟩ := H
    replace H : (some t491) = some r := H
    have A32 := Aside0.mk A320
    clear A320
    obtain rfl := Option.some.inj H
    go_enter Tryz.func52, Tryz.ntmps52
    try go_wp2_with (first | ((with_reducible refine gate_dst (N := 1) rfl ?_); refine box_event ?hg (N := 1) ?hd (cs := #[.int .i64 a0_0, .int .i64 a0_1, .int .i64 a0_2, .int .i64 a0_3, .int .i64 a0_4, .int .i64 a0_5, .int .i64 a0_6, .bool a0_7, .slice A0_8 l0_8.length c0_8, .int .i64 a0_9, .int .i64 a0_10, .int .i64 a0_11, .slice A0_12 l0_12.length c0_12, .int .i64 a0_13, .int .i64 a0_14, .int .i64 a0_15, .slice A0_16 l0_16.length c0_16]) (t := 34) ?hr ?_; (case hd => rfl); (case hg => rfl); (case hr => first | (go_simp; done) | (go_simp; rfl)); intro gb466 hg w33 hbox hb; have n0_ := Aside0.mk (below_step (stB HB.out) hb); have n1_ := Aside0.mk (hbox); have n2_ := Aside0.mk ((by rw [hg]; exact (below_size (stB HB.out)) : w.heap.size ≤ gb466)); have n3_ := Aside0.mk ((by rw [hg]; exact (below_size (stB HB.out)) : w.heap.size ≤ gb466)); clear HB; have HB := n0_; have BK466 := n1_; have GW466 := n2_; have GE466 := n3_; clear n0_ n1_ n2_ n3_; clear hb hbox hg; obtain ⟨hcz34_0, hcz34_1, hcz34_2, hcz34_3, hcz34_4, hcz34_5, hcz34_6, hcz34_7, hcz34_8, hcz34_9, hcz34_10, hcz34_11, hcz34_12, hcz34_13, hcz34_14, hcz34_15, hcz34_16⟩ := bc17 BK466.out; obtain ⟨hfz34_0, hfz34_1, hfz34_2, hfz34_3, hfz34_4, hfz34_5, hfz34_6, hfz34_7, hfz34_8, hfz34_9, hfz34_10, hfz34_11, hfz34_12, hfz34_13, hfz34_14, hfz34_15, hfz34_16⟩ := bf17 BK466.out) | ((with_reducible refine gate_dst (N := 10) rfl ?_); refine Kd.R_lit (Kd.int .i64) _ 2 ?hg (N := 10) ?hd (xs := ([a0_0, a0_1, a0_2] : List Int)) (inner := [.int .i64 a0_0, .int .i64 a0_1, .int .i64 a0_2]) (ok := fun _ => True) (okp := fun _ => True) ?hr ?hp (fun _ hk => hk) trivial (Below.refl _ _) (Nat.le_refl _) (by simp) ?_; (case hd => rfl); (case hg => rfl); (case hr => first | (go_simp; done) | (go_simp; rfl)); (case hp => exact (Reps.one (show Kd.M (Kd.int .i64) _ _ _ a0_0 [.int .i64 a0_0] from rfl) (Reps.one (show Kd.M (Kd.int .i64) _ _ _ a0_1 [.int .i64 a0_1] from rfl) (Reps.one (show Kd.M (Kd.int .i64) _ _ _ a0_2 [.int .i64 a0_2] from rfl) (Reps.none _ _))))); intro v468 w35 ho36 hb hg_ hnew_; clear hg_ hnew_; (first | rw [← Ny467.out] at ho36 | (simp only [Int.reduceToNat] at ho36; rw [← Ny467.out] at ho36)); have n0_ := Aside0.mk (Kd.R_lower ho36 (below_size (by repeat (first | (with_reducible first | exact HB.out | apply below_alloc | apply pw_below_drewN | apply below_drew1 | refine below_set ?_ GE466.out) | exact HB.out)))); have n1_ := Aside0.mk (blk_below (g := gb466) (o := .cells #[.int .i64 a0_0, .int .i64 a0_1, .int .i64 a0_2, .int .i64 a0_3, .int .i64 a0_4, .int .i64 a0_5, .int .i64 a0_6, .bool a0_7, .slice A0_8 l0_8.length c0_8, .int .i64 a0_9, .int .i64 a0_10, .int .i64 a0_11, .slice A0_12 l0_12.length c0_12, .int .i64 a0_13, .int .i64 a0_14, .int .i64 a0_15, .slice A0_16 l0_16.length c0_16] 34 (0, 0)) (stK BK466.out) hb); have n2_ := Aside0.mk (below_step (by repeat (first | (with_reducible first | exact HB.out | apply below_alloc | apply pw_below_drewN | apply below_drew1 | refine below_set ?_ GE466.out) | exact HB.out)) hb); clear BK466; clear HB; have HO469 := n0_; have BK466 := n1_; have HB := n2_; clear n0_ n1_ n2_; clear hb ho36; obtain ⟨Ao37, co37, eo37⟩ := Kd.R_slice HO469.out; subst eo37) | ((with_reducible refine gate_callee (f := 97) rfl ?_); refine goesL_ (some 11) rfl rfl Tryz.func97 (by kernel_rfl) rfl #[.slice none 0 0, .slice Ao37 y467.length co37] rfl (by (try simp only [List.map_toArray, List.map_cons, List.map_nil]); first | done | rfl | (simp only [List.length_drop, List.length_take]; rfl)) ?_; (refine (trivetref04_num.calls k _ _ ([] : List Int) _ _ y467 t470 _ ?side1 ?side2 ?side3 ?side4 A2.out).mono ?_); (case side1 => exact Kd.C_nil _ _); (case side2 => exact Nat.le_refl _); (case side3 => exact stC ((Kd.R_reads' HO469.out).2.2)); (case side4 => exact (Kd.R_reads' HO469.out).2.1); rintro e w38 ⟨v471, rfl, ho0, hb⟩; refine ⟨_, rfl, ?_⟩; have n0_ := Aside0.mk (Kd.R_below (stR HO469.out) hb); have n1_ := Aside0.mk (Kd.R_lower ho0 (below_size (by repeat (first | (with_reducible first | exact HB.out | apply below_alloc | apply pw_below_drewN | apply below_drew1 | refine below_set ?_ GE466.out) | exact HB.out)))); have n2_ := Aside0.mk (blk_below (g := gb466) (o := .cells #[.int .i64 a0_0, .int .i64 a0_1, .int .i64 a0_2, .int .i64 a0_3, .int .i64 a0_4, .int .i64 a0_5, .int .i64 a0_6, .bool a0_7, .slice A0_8 l0_8.length c0_8, .int .i64 a0_9, .int .i64 a0_10, .int .i64 a0_11, .slice A0_12 l0_12.length c0_12, .int .i64 a0_13, .int .i64 a0_14, .int .i64 a0_15, .slice A0_16 l0_16.length c0_16] 34 (0, 0)) (stK BK466.out) hb); have n3_ := Aside0.mk (below_step (by repeat (first | (with_reducible first | exact HB.out | apply below_alloc | apply pw_below_drewN | apply below_drew1 | refine below_set ?_ GE466.out) | exact HB.out)) hb); clear HO469; clear BK466; clear HB; have HO469 := n0_; have HO472 := n1_; have BK466 := n2_; have HB := n3_; clear n0_ n1_ n2_ n3_; (try clear hb); (try clear hb2); (try clear hk); (try clear hi); (try clear ho0); obtain ⟨hcz39_0, hcz39_1, hcz39_2, hcz39_3, hcz39_4, hcz39_5, hcz39_6, hcz39_7, hcz39_8, hcz39_9, hcz39_10, hcz39_11, hcz39_12, hcz39_13, hcz39_14, hcz39_15, hcz39_16⟩ := bc17 BK466.out; obtain ⟨hfz39_0, hfz39_1, hfz39_2, hfz39_3, hfz39_4, hfz39_5, hfz39_6, hfz39_7, hfz39_8, hfz39_9, hfz39_10, hfz39_11, hfz39_12, hfz39_13, hfz39_14, hfz39_15, hfz39_16⟩ := bf17 BK466.out))
    have n0_ := Aside0.mk (Kd.R_drew HO469.out)
    have n1_ := Aside0.mk (Kd.R_drew HO472.out)
    have n2_ := Aside0.mk (blk_drew BK466.out)
    have n3_ := Aside0.mk (below_drew1 HB.out)
    clear HO469
    clear HO472
    clear BK466
    clear HB
    have HO469 := n0_
    have HO472 := n1_
    have BK466 := n2_
    have HB := n3_
    clear n0_ n1_ n2_ n3_
    refine start_ (n := 9) (S := fun w' => w'.cell? ⟨gb466, 0, none⟩ = some (.int .i64 a0_0) ∧ w'.cell? ⟨gb466, 1, none⟩ = some (.int .i64 a0_1) ∧ w'.cell? ⟨gb466, 2, none⟩ = some (.int .i64 a0_2) ∧ w'.cell? ⟨gb466, 3, none⟩ = some (.int .i64 a0_3) ∧ w'.cell? ⟨gb466, 4, none⟩ = some (.int .i64 a0_4) ∧ w'.cell? ⟨gb466, 5, none⟩ = some (.int .i64 a0_5) ∧ w'.cell? ⟨gb466, 6, none⟩ = some (.int .i64 a0_6) ∧ w'.cell? ⟨gb466, 7, none⟩ = some (.bool a0_7) ∧ w'.cell? ⟨gb466, 8, none⟩ = some (.slice A0_8 l0_8.length c0_8) ∧ w'.cell? ⟨gb466, 9, none⟩ = some (.int .i64 a0_9) ∧ w'.cell? ⟨gb466, 10, none⟩ = some (.int .i64 a0_10) ∧ w'.cell? ⟨gb466, 11, none⟩ = some (.int .i64 a0_11) ∧ w'.cell? ⟨gb466, 12, none⟩ = some (.slice A0_12 l0_12.length c0_12) ∧ w'.cell? ⟨gb466, 13, none⟩ = some (.int .i64 a0_13) ∧ w'.cell? ⟨gb466, 14, none⟩ = some (.int .i64 a0_14) ∧ w'.cell? ⟨gb466, 15, none⟩ = some (.int .i64 a0_15) ∧ w'.cell? ⟨gb466, 16, none⟩ = some (.slice A0_16 l0_16.length c0_16)) (ds := []) #[false, false, false, false, false, false, false, false, false] (by kernel_rfl) rfl rfl (bc17 BK466.out) (fun hHeld => ?_); refine with_tabW trivetref04_MsgForm.tab8 trivetref04_MsgForm.bits8 (fun HT_ HW_ => ?_)
    generalize w38.drew = w40 at HO469 HO472 BK466 HB hHeld ⊢
    refine pure_ (i := 0) (N := some 34) (v := ?_) (a' := ?_) #[true, false, false, false, false, false, false, false, false] rfl rfl (any_of HT_.out (by kernel_rfl)) (fun _ _ _ h => h) (Or.inl ⟨by rfl, ?_⟩) ?_ ?_
    rotate_left
    ·intro w'
     go_simp
     with_reducible rfl
    rotate_left
    ·simp only [Act.put, List.setIfInBounds_toArray, List.set_cons_zero, List.set_cons_succ, i64_w, i32_w]
     rfl
    refine pure_ (i := 1) (N := some 35) (v := ?_) (a' := ?_) #[true, true, false, false, false, false, false, false, false] rfl rfl (any_of HT_.out (by kernel_rfl)) (fun _ _ _ h => h) (Or.inl ⟨by rfl, ?_⟩) ?_ ?_
    rotate_left
    ·intro w'
     go_simp
     with_reducible rfl
    rotate_left
    ·simp only [Act.put, List.setIfInBounds_toArray, List.set_cons_zero, List.set_cons_succ, i64_w, i32_w]
     rfl
    refine pure_ (i := 5) (N := some 39) (v := ?_) (a' := ?_) #[true, true, false, false, false, true, false, false, false] rfl rfl (any_of HT_.out (by kernel_rfl)) (fun _ _ _ h => h) (Or.inl ⟨by rfl, ?_⟩) ?_ ?_
    rotate_left
    ·intro w'
     go_simp
     with_reducible rfl
    rotate_left
    ·simp only [Act.put, List.setIfInBounds_toArray, List.set_cons_zero, List.set_cons_succ, i64_w, i32_w]
     rfl
    refine take_ (i := 2) (N := some 36) (v := ?_) (a' := ?_) #[true, true, true, false, false, true, false, false, false] rfl rfl (take_ofW HT_.out HW_.out (by kernel_rfl)) (fun _ _ _ h => h) (Or.inl ⟨by rfl, ?_⟩) hHeld ?_ ?_
    rotate_left
    ·rintro w' ⟨s0, s1, s2, s3, s4, s5, s6, s7, s8, s9, s10, s11, s12, s13, s14, s15, s16⟩
     go_simp
     with_reducible rfl
    rotate_left
    ·simp only [Act.put, List.setIfInBounds_toArray, List.set_cons_zero, List.set_cons_succ, i64_w, i32_w]
     rfl
    refine take_ (i := 6) (N := some 40) (v := ?_) (a' := ?_) #[true, true, true, false, false, true, true, false, false] rfl rfl (take_ofW HT_.out HW_.out (by kernel_rfl)) (fun _ _ _ h => h) (Or.inl ⟨by rfl, ?_⟩) hHeld ?_ ?_
    rotate_left
    ·rintro w' ⟨s0, s1, s2, s3, s4, s5, s6, s7, s8, s9, s10, s11, s12, s13, s14, s15, s16⟩
     go_simp
     with_reducible rfl
    rotate_left
    ·simp only [Act.put, List.setIfInBounds_toArray, List.set_cons_zero, List.set_cons_succ, i64_w, i32_w]
     rfl
    refine one_ (i := 3) (N := some 37) #[true, true, true, true, false, true, true, false, false] rfl rfl (one_of HT_.out (by kernel_rfl)) (by decide) (fun K hK => ?_)
    refine Kd.R_lit_step (Kd.int .i64) _ 2 ?hg (N := 37) ?hd (xs := ([a0_3] : List Int)) (inner := [.int .i64 a0_3]) (ok := fun _ => True) (okp := fun _ => True) ?hr ?hp (fun _ hk => hk) trivial (Below.refl _ _) (Nat.le_refl _) (by simp) ?_; (case hd => rfl); (case hg => rfl); (case hr => first | (go_simp; done) | (go_simp; rfl)); (case hp => exact (Reps.one (show Kd.M (Kd.int .i64) _ _ _ a0_3 [.int .i64 a0_3] from rfl) (Reps.none _ _)))
    intro v486 w41 ho42 hb hg_ hnew_
    clear hg_ hnew_
    (first | rw [← Ny485.out] at ho42 | (simp only [Int.reduceToNat] at ho42; rw [← Ny485.out] at ho42))
    have n0_ := Aside0.mk (Kd.R_elder' (stR HO469.out) (Kd.R_base ho42) hb)
    have n1_ := Aside0.mk (Kd.R_below (stR HO472.out) hb)
    have n2_ := Aside0.mk (Kd.R_lower (Kd.R_new' ho42 (Kd.R_lt (stR HO469.out))) (below_size (by repeat (first | (with_reducible first | exact HB.out | apply below_alloc | apply pw_below_drewN | apply below_drew1 | refine below_set ?_ GE466.out) | exact HB.out))))
    have n3_ := Aside0.mk (blk_below (g := gb466) (o := .cells #[.int .i64 a0_0, .int .i64 a0_1, .int .i64 a0_2, .int .i64 a0_3, .int .i64 a0_4, .int .i64 a0_5, .int .i64 a0_6, .bool a0_7, .slice A0_8 l0_8.length c0_8, .int .i64 a0_9, .int .i64 a0_10, .int .i64 a0_11, .slice A0_12 l0_12.length c0_12, .int .i64 a0_13, .int .i64 a0_14, .int .i64 a0_15, .slice A0_16 l0_16.length c0_16] 34 (0, 0)) (stK BK466.out) hb)
    have n4_ := Aside0.mk (below_step (by repeat (first | (with_reducible first | exact HB.out | apply below_alloc | apply pw_below_drewN | apply below_drew1 | refine below_set ?_ GE466.out) | exact HB.out)) hb)
    clear HO469
    clear HO472
    clear BK466
    clear HB
    have HO469 := n0_
    have HO472 := n1_
    have HO487 := n2_
    have BK466 := n3_
    have HB := n4_
    clear n0_ n1_ n2_ n3_ n4_
    clear hb ho42
    obtain ⟨Ao43, co43, eo43⟩ := Kd.R_slice HO472.out
    (first | subst eo43 | (injection eo43 with f1_ f2_ f3_; have f4_ := f1_.symm; have f5_ := f3_.symm; clear f1_ f2_ f3_; subst f4_; subst f5_))
    obtain ⟨Ao44, co44, eo44⟩ := Kd.R_slice HO487.out
    (first | subst eo44 | (injection eo44 with f1_ f2_ f3_; have f4_ := f1_.symm; have f5_ := f3_.symm; clear f1_ f2_ f3_; subst f4_; subst f5_))
    refine hK.out _ _ (bc17 BK466.out) (fun hHeld => ?_)
    clear hK K
    refine norm_ (a' := ?_) ?_ ?_
    rotate_left
    ·show Act.put _ (some 37) _ = _
     simp only [Act.put, List.setIfInBounds_toArray, List.set_cons_zero, List.set_cons_succ, i64_w, i32_w]
     rfl
    refine one_ (i := 4) (N := some 38) #[true, true, true, true, true, true, true, false, false] rfl rfl (one_of HT_.out (by kernel_rfl)) (by decide) (fun K hK => ?_)
    refine goes_ Tryz.func97 (by kernel_rfl) rfl #[.slice Ao43 t470.length co43, .slice Ao44 y485.length co44] (by rfl) rfl rfl (by (try simp only [List.map_toArray, List.map_cons, List.map_nil]); first | done | rfl | (simp only [List.length_drop, List.length_take]; rfl)) ?_
    with_reducible refine (trivetref04_num.calls k _ _ t470 _ _ y485 t488 _ ?side1 ?side2 ?side3 ?side4 A31.out).mono ?_
    (case side1 => exact stC ((Kd.R_reads' HO472.out).2.2))
    (case side2 => exact (Kd.R_reads' HO472.out).2.1)
    (case side3 => exact stC ((Kd.R_reads' HO487.out).2.2))
    (case side4 => exact (Kd.R_reads' HO487.out).2.1)
    rintro e w45 ⟨v489, rfl, ho0, hb⟩
    refine ⟨_, rfl, ?_⟩
    have n0_ := Aside0.mk (Kd.R_below (stR HO469.out) hb)
    have n1_ := Aside0.mk (Kd.R_elder' (stR HO472.out) (Kd.R_base ho0) hb)
    have n2_ := Aside0.mk (Kd.R_below (stR HO487.out) hb)
    have n3_ := Aside0.mk (Kd.R_lower (Kd.R_new' ho0 (Kd.R_lt (stR HO472.out))) (below_size (by repeat (first | (with_reducible first | exact HB.out | apply below_alloc | apply pw_below_drewN | apply below_drew1 | refine below_set ?_ GE466.out) | exact HB.out))))
    have n4_ := Aside0.mk (blk_below (g := gb466) (o := .cells #[.int .i64 a0_0, .int .i64 a0_1, .int .i64 a0_2, .int .i64 a0_3, .int .i64 a0_4, .int .i64 a0_5, .int .i64 a0_6, .bool a0_7, .slice A0_8 l0_8.length c0_8, .int .i64 a0_9, .int .i64 a0_10, .int .i64 a0_11, .slice A0_12 l0_12.length c0_12, .int .i64 a0_13, .int .i64 a0_14, .int .i64 a0_15, .slice A0_16 l0_16.length c0_16] 34 (0, 0)) (stK BK466.out) hb)
    have n5_ := Aside0.mk (below_step (by repeat (first | (with_reducible first | exact HB.out | apply below_alloc | apply pw_below_drewN | apply below_drew1 | refine below_set ?_ GE466.out) | exact HB.out)) hb)
    clear HO469
    clear HO472
    clear HO487
    clear BK466
    clear HB
    have HO469 := n0_
    have HO472 := n1_
    have HO487 := n2_
    have HO490 := n3_
    have BK466 := n4_
    have HB := n5_
    clear n0_ n1_ n2_ n3_ n4_ n5_
    (try clear hb)
    (try clear hb2)
    (try clear hk)
    (try clear hi)
    (try clear ho0)
    obtain ⟨Ao46, co46, eo46⟩ := Kd.R_slice HO490.out
    (first | subst eo46 | (injection eo46 with f1_ f2_ f3_; have f4_ := f1_.symm; have f5_ := f3_.symm; clear f1_ f2_ f3_; subst f4_; subst f5_))
    refine hK.out _ _ (bc17 BK466.out) (fun hHeld => ?_)
    clear hK K
    refine norm_ (a' := ?_) ?_ ?_
    rotate_left
    ·show Act.put _ (some 38) _ = _
     simp only [Act.put, List.setIfInBounds_toArray, List.set_cons_zero, List.set_cons_succ, i64_w, i32_w]
     rfl
    refine one_ (i := 7) (N := some 41) #[true, true, true, true, true, true, true, true, false] rfl rfl (one_of HT_.out (by kernel_rfl)) (by decide) (fun K hK => ?_)
    refine goes_ Tryz.func104 (by kernel_rfl) rfl #[.slice Ao46 t488.length co46, .bool a0_7] (by rfl) rfl rfl (by (try simp only [List.map_toArray, List.map_cons, List.map_nil]); first | done | rfl | (simp only [List.length_drop, List.length_take]; rfl)) ?_
    with_reducible refine (trivetref04_yes.calls k _ _ t488 a0_7 t491 _ ?side1 ?side2 A32.out).mono ?_
    (case side1 => exact stC ((Kd.R_reads' HO490.out).2.2))
    (case side2 => exact (Kd.R_reads' HO490.out).2.1)
    rintro e w47 ⟨v492, rfl, ho0, hb⟩
    refine ⟨_, rfl, ?_⟩
    have n0_ := Aside0.mk (Kd.R_below (stR HO469.out) hb)
    have n1_ := Aside0.mk (Kd.R_elder' (stR HO472.out) (Kd.R_base ho0) hb)
    have n2_ := Aside0.mk (Kd.R_below (stR HO487.out) hb)
    have n3_ := Aside0.mk (Kd.R_elder' (stR HO490.out) (Kd.R_base ho0) hb)
    have n4_ := Aside0.mk (Kd.R_lower (Kd.R_new' (Kd.R_new' ho0 (Kd.R_lt (stR HO472.out))) (Kd.R_lt (stR HO490.out))) (below_size (by repeat (first | (with_reducible first | exact HB.out | apply below_alloc | apply pw_below_drewN | apply below_drew1 | refine below_set ?_ GE466.out) | exact HB.out))))
    have n5_ := Aside0.mk (blk_below (g := gb466) (o := .cells #[.int .i64 a0_0, .int .i64 a0_1, .int .i64 a0_2, .int .i64 a0_3, .int .i64 a0_4, .int .i64 a0_5, .int .i64 a0_6, .bool a0_7, .slice A0_8 l0_8.length c0_8, .int .i64 a0_9, .int .i64 a0_10, .int .i64 a0_11, .slice A0_12 l0_12.length c0_12, .int .i64 a0_13, .int .i64 a0_14, .int .i64 a0_15, .slice A0_16 l0_16.length c0_16] 34 (0, 0)) (stK BK466.out) hb)
    have n6_ := Aside0.mk (below_step (by repeat (first | (with_reducible first | exact HB.out | apply below_alloc | apply pw_below_drewN | apply below_drew1 | refine below_set ?_ GE466.out) | exact HB.out)) hb)
    clear HO469
    clear HO472
    clear HO487
    clear HO490
    clear BK466
    clear HB
    have HO469 := n0_
    have HO472 := n1_
    have HO487 := n2_
    have HO490 := n3_
    have HO493 := n4_
    have BK466 := n5_
    have HB := n6_
    clear n0_ n1_ n2_ n3_ n4_ n5_ n6_
    (try clear hb)
    (try clear hb2)
    (try clear hk)
    (try clear hi)
    (try clear ho0)
    refine hK.out _ _ (bc17 BK466.out) (fun hHeld => ?_)
    clear hK K
    refine norm_ (a' := ?_) ?_ ?_
    rotate_left
    ·show Act.put _ (some 41) _ = _
     simp only [Act.put, List.setIfInBounds_toArray, List.set_cons_zero, List.set_cons_succ, i64_w, i32_w]
     rfl
    refine pure_ (i := 8) (N := some 2) (v := ?_) (a' := ?_) #[true, true, true, true, true, true, true, true, true] rfl rfl (any_of HT_.out (by kernel_rfl)) (fun _ _ _ h => h) (Or.inl ⟨by rfl, ?_⟩) ?_ ?_
    rotate_left
    ·intro w'
     go_simp
     with_reducible rfl
    rotate_left
    ·simp only [Act.put, List.setIfInBounds_toArray, List.set_cons_zero, List.set_cons_succ, i64_w, i32_w]
     rfl
    refine done_ (done_of HT_.out (by kernel_rfl)) ?_
    try go_wp2
    go_ret
    exact ⟨_, by first | rfl | (simp [errW_none, errW_some] <;> rfl) | (simp [*, errW_none, errW_some] <;> rfl), by (with_reducible repeat (first|apply Kd.R_alloc | apply Kd.R_drewN | apply Kd.R_drew)); exact Kd.R_mono HO493.out (fun _ hk => trivial), by repeat (first | (with_reducible first | exact HB.out | apply below_alloc | apply pw_below_drewN | apply below_drew1 | refine below_set ?_ GE466.out) | exact HB.out)⟩
   ·rw [if_neg c30] at H
    have c30b0 : (a0_0 == 2) = false := beq_eq_false_iff_ne.mpr c30
    have c30b1 : (a0_0 != 2) = true := bne_iff_ne.mpr c30
    by_cases c48 : a0_0 = 3
    ·rw [if_pos c48] at H
     have c48b0 : (a0_0 == 3) = true := beq_iff_eq.mpr c48
     have c48b1 : (a0_0 != 3) = false := bne_eq_false_iff_eq.mpr c48
     clear c48
     obtain ⟨y494, hy494⟩ : ∃ y_ : List Int, y_ = (([a0_3, a0_4, a0_5, a0_6] : List Int)) := ⟨_, rfl⟩
     replace H : ((trivetref04_num.f k t470 y494).bind fun t497 => ((trivetref04_lists.f k t497 l0_8).bind fun t500 => (some t500))) = some r := by first | (rw [hy494]; with_reducible exact H) | (have H2_ := (Option.bind_some _ _).symm.trans H; rw [hy494]; with_reducible exact H2_) | (have H2_ := (Option.bind_some _ _).symm.trans H; with_reducible exact H2_) | with_reducible exact H | (rw [hy494]; exact H) | exact H
     have Ny494 := Aside0.mk hy494
     clear hy494
     replace H := Option.bind_eq_some_iff.mp H
     obtain ⟨t497, A490, H⟩ := H
     replace H : ((trivetref04_lists.f k t497 l0_8).bind fun t500 => (some t500)) = some r := H
     have A49 := Aside0.mk A490
     clear A490
     replace H := Option.bind_eq_some_iff.mp H
     obtain ⟨t500, A500, H⟩ := H
     replace H : (some t500) = some r := H
     have A50 := Aside0.mk A500
     clear A500
     obtain rfl := Option.some.inj H
     go_enter Tryz.func52, Tryz.ntmps52
     try go_wp2_with (first | ((with_reducible refine gate_dst (N := 1) rfl ?_); refine box_event ?hg (N := 1) ?hd (cs := #[.int .i64 a0_0, .int .i64 a0_1, .int .i64 a0_2, .int .i64 a0_3, .int .i64 a0_4, .int .i64 a0_5, .int .i64 a0_6, .bool a0_7, .slice A0_8 l0_8.length c0_8, .int .i64 a0_9, .int .i64 a0_10, .int .i64 a0_11, .slice A0_12 l0_12.length c0_12, .int .i64 a0_13, .int .i64 a0_14, .int .i64 a0_15, .slice A0_16 l0_16.length c0_16]) (t := 34) ?hr ?_; (case hd => rfl); (case hg => rfl); (case hr => first | (go_simp; done) | (go_simp; rfl)); intro gb466 hg w51 hbox hb; have n0_ := Aside0.mk (below_step (stB HB.out) hb); have n1_ := Aside0.mk (hbox); have n2_ := Aside0.mk ((by rw [hg]; exact (below_size (stB HB.out)) : w.heap.size ≤ gb466)); have n3_ := Aside0.mk ((by rw [hg]; exact (below_size (stB HB.out)) : w.heap.size ≤ gb466)); clear HB; have HB := n0_; have BK466 := n1_; have GW466 := n2_; have GE466 := n3_; clear n0_ n1_ n2_ n3_; clear hb hbox hg; obtain ⟨hcz52_0, hcz52_1, hcz52_2, hcz52_3, hcz52_4, hcz52_5, hcz52_6, hcz52_7, hcz52_8, hcz52_9, hcz52_10, hcz52_11, hcz52_12, hcz52_13, hcz52_14, hcz52_15, hcz52_16⟩ := bc17 BK466.out; obtain ⟨hfz52_0, hfz52_1, hfz52_2, hfz52_3, hfz52_4, hfz52_5, hfz52_6, hfz52_7, hfz52_8, hfz52_9, hfz52_10, hfz52_11, hfz52_12, hfz52_13, hfz52_14, hfz52_15, hfz52_16⟩ := bf17 BK466.out) | ((with_reducible refine gate_dst (N := 10) rfl ?_); refine Kd.R_lit (Kd.int .i64) _ 2 ?hg (N := 10) ?hd (xs := ([a0_0, a0_1, a0_2] : List Int)) (inner := [.int .i64 a0_0, .int .i64 a0_1, .int .i64 a0_2]) (ok := fun _ => True) (okp := fun _ => True) ?hr ?hp (fun _ hk => hk) trivial (Below.refl _ _) (Nat.le_refl _) (by simp) ?_; (case hd => rfl); (case hg => rfl); (case hr => first | (go_simp; done) | (go_simp; rfl)); (case hp => exact (Reps.one (show Kd.M (Kd.int .i64) _ _ _ a0_0 [.int .i64 a0_0] from rfl) (Reps.one (show Kd.M (Kd.int .i64) _ _ _ a0_1 [.int .i64 a0_1] from rfl) (Reps.one (show Kd.M (Kd.int .i64) _ _ _ a0_2 [.int .i64 a0_2] from rfl) (Reps.none _ _))))); intro v468 w53 ho54 hb hg_ hnew_; clear hg_ hnew_; (first | rw [← Ny467.out] at ho54 | (simp only [Int.reduceToNat] at ho54; rw [← Ny467.out] at ho54)); have n0_ := Aside0.mk (Kd.R_lower ho54 (below_size (by repeat (first | (with_reducible first | exact HB.out | apply below_alloc | apply pw_below_drewN | apply below_drew1 | refine below_set ?_ GE466.out) | exact HB.out)))); have n1_ := Aside0.mk (blk_below (g := gb466) (o := .cells #[.int .i64 a0_0, .int .i64 a0_1, .int .i64 a0_2, .int .i64 a0_3, .int .i64 a0_4, .int .i64 a0_5, .int .i64 a0_6, .bool a0_7, .slice A0_8 l0_8.length c0_8, .int .i64 a0_9, .int .i64 a0_10, .int .i64 a0_11, .slice A0_12 l0_12.length c0_12, .int .i64 a0_13, .int .i64 a0_14, .int .i64 a0_15, .slice A0_16 l0_16.length c0_16] 34 (0, 0)) (stK BK466.out) hb); have n2_ := Aside0.mk (below_step (by repeat (first | (with_reducible first | exact HB.out | apply below_alloc | apply pw_below_drewN | apply below_drew1 | refine below_set ?_ GE466.out) | exact HB.out)) hb); clear BK466; clear HB; have HO469 := n0_; have BK466 := n1_; have HB := n2_; clear n0_ n1_ n2_; clear hb ho54; obtain ⟨Ao55, co55, eo55⟩ := Kd.R_slice HO469.out; subst eo55) | ((with_reducible refine gate_callee (f := 97) rfl ?_); refine goesL_ (some 11) rfl rfl Tryz.func97 (by kernel_rfl) rfl #[.slice none 0 0, .slice Ao55 y467.length co55] rfl (by (try simp only [List.map_toArray, List.map_cons, List.map_nil]); first | done | rfl | (simp only [List.length_drop, List.length_take]; rfl)) ?_; (refine (trivetref04_num.calls k _ _ ([] : List Int) _ _ y467 t470 _ ?side1 ?side2 ?side3 ?side4 A2.out).mono ?_); (case side1 => exact Kd.C_nil _ _); (case side2 => exact Nat.le_refl _); (case side3 => exact stC ((Kd.R_reads' HO469.out).2.2)); (case side4 => exact (Kd.R_reads' HO469.out).2.1); rintro e w56 ⟨v471, rfl, ho0, hb⟩; refine ⟨_, rfl, ?_⟩; have n0_ := Aside0.mk (Kd.R_below (stR HO469.out) hb); have n1_ := Aside0.mk (Kd.R_lower ho0 (below_size (by repeat (first | (with_reducible first | exact HB.out | apply below_alloc | apply pw_below_drewN | apply below_drew1 | refine below_set ?_ GE466.out) | exact HB.out)))); have n2_ := Aside0.mk (blk_below (g := gb466) (o := .cells #[.int .i64 a0_0, .int .i64 a0_1, .int .i64 a0_2, .int .i64 a0_3, .int .i64 a0_4, .int .i64 a0_5, .int .i64 a0_6, .bool a0_7, .slice A0_8 l0_8.length c0_8, .int .i64 a0_9, .int .i64 a0_10, .int .i64 a0_11, .slice A0_12 l0_12.length c0_12, .int .i64 a0_13, .int .i64 a0_14, .int .i64 a0_15, .slice A0_16 l0_16.length c0_16] 34 (0, 0)) (stK BK466.out) hb); have n3_ := Aside0.mk (below_step (by repeat (first | (with_reducible first | exact HB.out | apply below_alloc | apply pw_below_drewN | apply below_drew1 | refine below_set ?_ GE466.out) | exact HB.out)) hb); clear HO469; clear BK466; clear HB; have HO469 := n0_; have HO472 := n1_; have BK466 := n2_; have HB := n3_; clear n0_ n1_ n2_ n3_; (try clear hb); (try clear hb2); (try clear hk); (try clear hi); (try clear ho0); obtain ⟨hcz57_0, hcz57_1, hcz57_2, hcz57_3, hcz57_4, hcz57_5, hcz57_6, hcz57_7, hcz57_8, hcz57_9, hcz57_10, hcz57_11, hcz57_12, hcz57_13, hcz57_14, hcz57_15, hcz57_16⟩ := bc17 BK466.out; obtain ⟨hfz57_0, hfz57_1, hfz57_2, hfz57_3, hfz57_4, hfz57_5, hfz57_6, hfz57_7, hfz57_8, hfz57_9, hfz57_10, hfz57_11, hfz57_12, hfz57_13, hfz57_14, hfz57_15, hfz57_16⟩ := bf17 BK466.out))
     have n0_ := Aside0.mk (Kd.R_drew HO469.out)
     have n1_ := Aside0.mk (Kd.R_drew HO472.out)
     have n2_ := Aside0.mk (blk_drew BK466.out)
     have n3_ := Aside0.mk (below_drew1 HB.out)
     clear HO469
     clear HO472
     clear BK466
     clear HB
     have HO469 := n0_
     have HO472 := n1_
     have BK466 := n2_
     have HB := n3_
     clear n0_ n1_ n2_ n3_
     refine start_ (n := 15) (S := fun w' => w'.cell? ⟨gb466, 0, none⟩ = some (.int .i64 a0_0) ∧ w'.cell? ⟨gb466, 1, none⟩ = some (.int .i64 a0_1) ∧ w'.cell? ⟨gb466, 2, none⟩ = some (.int .i64 a0_2) ∧ w'.cell? ⟨gb466, 3, none⟩ = some (.int .i64 a0_3) ∧ w'.cell? ⟨gb466, 4, none⟩ = some (.int .i64 a0_4) ∧ w'.cell? ⟨gb466, 5, none⟩ = some (.int .i64 a0_5) ∧ w'.cell? ⟨gb466, 6, none⟩ = some (.int .i64 a0_6) ∧ w'.cell? ⟨gb466, 7, none⟩ = some (.bool a0_7) ∧ w'.cell? ⟨gb466, 8, none⟩ = some (.slice A0_8 l0_8.length c0_8) ∧ w'.cell? ⟨gb466, 9, none⟩ = some (.int .i64 a0_9) ∧ w'.cell? ⟨gb466, 10, none⟩ = some (.int .i64 a0_10) ∧ w'.cell? ⟨gb466, 11, none⟩ = some (.int .i64 a0_11) ∧ w'.cell? ⟨gb466, 12, none⟩ = some (.slice A0_12 l0_12.length c0_12) ∧ w'.cell? ⟨gb466, 13, none⟩ = some (.int .i64 a0_13) ∧ w'.cell? ⟨gb466, 14, none⟩ = some (.int .i64 a0_14) ∧ w'.cell? ⟨gb466, 15, none⟩ = some (.int .i64 a0_15) ∧ w'.cell? ⟨gb466, 16, none⟩ = some (.slice A0_16 l0_16.length c0_16)) (ds := []) #[false, false, false, false, false, false, false, false, false, false, false, false, false, false, false] (by kernel_rfl) rfl rfl (bc17 BK466.out) (fun hHeld => ?_); refine with_tabW trivetref04_MsgForm.tab10 trivetref04_MsgForm.bits10 (fun HT_ HW_ => ?_)
     generalize w56.drew = w58 at HO469 HO472 BK466 HB hHeld ⊢
     refine pure_ (i := 0) (N := some 44) (v := ?_) (a' := ?_) #[true, false, false, false, false, false, false, false, false, false, false, false, false, false, false] rfl rfl (any_of HT_.out (by kernel_rfl)) (fun _ _ _ h => h) (Or.inl ⟨by rfl, ?_⟩) ?_ ?_
     rotate_left
     ·intro w'
      go_simp
      with_reducible rfl
     rotate_left
     ·simp only [Act.put, List.setIfInBounds_toArray, List.set_cons_zero, List.set_cons_succ, i64_w, i32_w]
      rfl
     refine pure_ (i := 1) (N := some 45) (v := ?_) (a' := ?_) #[true, true, false, false, false, false, false, false, false, false, false, false, false, false, false] rfl rfl (any_of HT_.out (by kernel_rfl)) (fun _ _ _ h => h) (Or.inl ⟨by rfl, ?_⟩) ?_ ?_
     rotate_left
     ·intro w'
      go_simp
      with_reducible rfl
     rotate_left
     ·simp only [Act.put, List.setIfInBounds_toArray, List.set_cons_zero, List.set_cons_succ, i64_w, i32_w]
      rfl
     refine pure_ (i := 3) (N := some 47) (v := ?_) (a' := ?_) #[true, true, false, true, false, false, false, false, false, false, false, false, false, false, false] rfl rfl (any_of HT_.out (by kernel_rfl)) (fun _ _ _ h => h) (Or.inl ⟨by rfl, ?_⟩) ?_ ?_
     rotate_left
     ·intro w'
      go_simp
      with_reducible rfl
     rotate_left
     ·simp only [Act.put, List.setIfInBounds_toArray, List.set_cons_zero, List.set_cons_succ, i64_w, i32_w]
      rfl
     refine pure_ (i := 5) (N := some 49) (v := ?_) (a' := ?_) #[true, true, false, true, false, true, false, false, false, false, false, false, false, false, false] rfl rfl (any_of HT_.out (by kernel_rfl)) (fun _ _ _ h => h) (Or.inl ⟨by rfl, ?_⟩) ?_ ?_
     rotate_left
     ·intro w'
      go_simp
      with_reducible rfl
     rotate_left
     ·simp only [Act.put, List.setIfInBounds_toArray, List.set_cons_zero, List.set_cons_succ, i64_w, i32_w]
      rfl
     refine pure_ (i := 7) (N := some 51) (v := ?_) (a' := ?_) #[true, true, false, true, false, true, false, true, false, false, false, false, false, false, false] rfl rfl (any_of HT_.out (by kernel_rfl)) (fun _ _ _ h => h) (Or.inl ⟨by rfl, ?_⟩) ?_ ?_
     rotate_left
     ·intro w'
      go_simp
      with_reducible rfl
     rotate_left
     ·simp only [Act.put, List.setIfInBounds_toArray, List.set_cons_zero, List.set_cons_succ, i64_w, i32_w]
      rfl
     refine pure_ (i := 11) (N := some 55) (v := ?_) (a' := ?_) #[true, true, false, true, false, true, false, true, false, false, false, true, false, false, false] rfl rfl (any_of HT_.out (by kernel_rfl)) (fun _ _ _ h => h) (Or.inl ⟨by rfl, ?_⟩) ?_ ?_
     rotate_left
     ·intro w'
      go_simp
      with_reducible rfl
     rotate_left
     ·simp only [Act.put, List.setIfInBounds_toArray, List.set_cons_zero, List.set_cons_succ, i64_w, i32_w]
      rfl
     refine take_ (i := 2) (N := some 46) (v := ?_) (a' := ?_) #[true, true, true, true, false, true, false, true, false, false, false, true, false, false, false] rfl rfl (take_ofW HT_.out HW_.out (by kernel_rfl)) (fun _ _ _ h => h) (Or.inl ⟨by rfl, ?_⟩) hHeld ?_ ?_
     rotate_left
     ·rintro w' ⟨s0, s1, s2, s3, s4, s5, s6, s7, s8, s9, s10, s11, s12, s13, s14, s15, s16⟩
      go_simp
      with_reducible rfl
     rotate_left
     ·simp only [Act.put, List.setIfInBounds_toArray, List.set_cons_zero, List.set_cons_succ, i64_w, i32_w]
      rfl
     refine take_ (i := 4) (N := some 48) (v := ?_) (a' := ?_) #[true, true, true, true, true, true, false, true, false, false, false, true, false, false, false] rfl rfl (take_ofW HT_.out HW_.out (by kernel_rfl)) (fun _ _ _ h => h) (Or.inl ⟨by rfl, ?_⟩) hHeld ?_ ?_
     rotate_left
     ·rintro w' ⟨s0, s1, s2, s3, s4, s5, s6, s7, s8, s9, s10, s11, s12, s13, s14, s15, s16⟩
      go_simp
      with_reducible rfl
     rotate_left
     ·simp only [Act.put, List.setIfInBounds_toArray, List.set_cons_zero, List.set_cons_succ, i64_w, i32_w]
      rfl
     refine take_ (i := 6) (N := some 50) (v := ?_) (a' := ?_) #[true, true, true, true, true, true, true, true, false, false, false, true, false, false, false] rfl rfl (take_ofW HT_.out HW_.out (by kernel_rfl)) (fun _ _ _ h => h) (Or.inl ⟨by rfl, ?_⟩) hHeld ?_ ?_
     rotate_left
     ·rintro w' ⟨s0, s1, s2, s3, s4, s5, s6, s7, s8, s9, s10, s11, s12, s13, s14, s15, s16⟩
      go_simp
      with_reducible rfl
     rotate_left
     ·simp only [Act.put, List.setIfInBounds_toArray, List.set_cons_zero, List.set_cons_succ, i64_w, i32_w]
      rfl
     refine take_ (i := 8) (N := some 52) (v := ?_) (a' := ?_) #[true, true, true, true, true, true, true, true, true, false, false, true, false, false, false] rfl rfl (take_ofW HT_.out HW_.out (by kernel_rfl)) (fun _ _ _ h => h) (Or.inl ⟨by rfl, ?_⟩) hHeld ?_ ?_
     rotate_left
     ·rintro w' ⟨s0, s1, s2, s3, s4, s5, s6, s7, s8, s9, s10, s11, s12, s13, s14, s15, s16⟩
      go_simp
      with_reducible rfl
     rotate_left
     ·simp only [Act.put, List.setIfInBounds_toArray, List.set_cons_zero, List.set_cons_succ, i64_w, i32_w]
      rfl
     refine take_ (i := 12) (N := some 56) (v := ?_) (a' := ?_) #[true, true, true, true, true, true, true, true, true, false, false, true, true, false, false] rfl rfl (take_ofW HT_.out HW_.out (by kernel_rfl)) (fun _ _ _ h => h) (Or.inl ⟨by rfl, ?_⟩) hHeld ?_ ?_
     rotate_left
     ·rintro w' ⟨s0, s1, s2, s3, s4, s5, s6, s7, s8, s9, s10, s11, s12, s13, s14, s15, s16⟩
      go_simp
      with_reducible rfl
     rotate_left
     ·simp only [Act.put, List.setIfInBounds_toArray, List.set_cons_zero, List.set_cons_succ, i64_w, i32_w]
      rfl
     refine one_ (i := 9) (N := some 53) #[true, true, true, true, true, true, true, true, true, true, false, true, true, false, false] rfl rfl (one_of HT_.out (by kernel_rfl)) (by decide) (fun K hK => ?_)
     refine Kd.R_lit_step (Kd.int .i64) _ 2 ?hg (N := 53) ?hd (xs := ([a0_3, a0_4, a0_5, a0_6] : List Int)) (inner := [.int .i64 a0_3, .int .i64 a0_4, .int .i64 a0_5, .int .i64 a0_6]) (ok := fun _ => True) (okp := fun _ => True) ?hr ?hp (fun _ hk => hk) trivial (Below.refl _ _) (Nat.le_refl _) (by simp) ?_; (case hd => rfl); (case hg => rfl); (case hr => first | (go_simp; done) | (go_simp; rfl)); (case hp => exact (Reps.one (show Kd.M (Kd.int .i64) _ _ _ a0_3 [.int .i64 a0_3] from rfl) (Reps.one (show Kd.M (Kd.int .i64) _ _ _ a0_4 [.int .i64 a0_4] from rfl) (Reps.one (show Kd.M (Kd.int .i64) _ _ _ a0_5 [.int .i64 a0_5] from rfl) (Reps.one (show Kd.M (Kd.int .i64) _ _ _ a0_6 [.int .i64 a0_6] from rfl) (Reps.none _ _))))))
     intro v495 w59 ho60 hb hg_ hnew_
     clear hg_ hnew_
     (first | rw [← Ny494.out] at ho60 | (simp only [Int.reduceToNat] at ho60; rw [← Ny494.out] at ho60))
     have n0_ := Aside0.mk (Kd.R_elder' (stR HO469.out) (Kd.R_base ho60) hb)
     have n1_ := Aside0.mk (Kd.R_below (stR HO472.out) hb)
     have n2_ := Aside0.mk (Kd.R_lower (Kd.R_new' ho60 (Kd.R_lt (stR HO469.out))) (below_size (by repeat (first | (with_reducible first | exact HB.out | apply below_alloc | apply pw_below_drewN | apply below_drew1 | refine below_set ?_ GE466.out) | exact HB.out))))
     have n3_ := Aside0.mk (blk_below (g := gb466) (o := .cells #[.int .i64 a0_0, .int .i64 a0_1, .int .i64 a0_2, .int .i64 a0_3, .int .i64 a0_4, .int .i64 a0_5, .int .i64 a0_6, .bool a0_7, .slice A0_8 l0_8.length c0_8, .int .i64 a0_9, .int .i64 a0_10, .int .i64 a0_11, .slice A0_12 l0_12.length c0_12, .int .i64 a0_13, .int .i64 a0_14, .int .i64 a0_15, .slice A0_16 l0_16.length c0_16] 34 (0, 0)) (stK BK466.out) hb)
     have n4_ := Aside0.mk (below_step (by repeat (first | (with_reducible first | exact HB.out | apply below_alloc | apply pw_below_drewN | apply below_drew1 | refine below_set ?_ GE466.out) | exact HB.out)) hb)
     clear HO469
     clear HO472
     clear BK466
     clear HB
     have HO469 := n0_
     have HO472 := n1_
     have HO496 := n2_
     have BK466 := n3_
     have HB := n4_
     clear n0_ n1_ n2_ n3_ n4_
     clear hb ho60
     obtain ⟨Ao61, co61, eo61⟩ := Kd.R_slice HO472.out
     (first | subst eo61 | (injection eo61 with f1_ f2_ f3_; have f4_ := f1_.symm; have f5_ := f3_.symm; clear f1_ f2_ f3_; subst f4_; subst f5_))
     obtain ⟨Ao62, co62, eo62⟩ := Kd.R_slice HO496.out
     (first | subst eo62 | (injection eo62 with f1_ f2_ f3_; have f4_ := f1_.symm; have f5_ := f3_.symm; clear f1_ f2_ f3_; subst f4_; subst f5_))
     refine hK.out _ _ (bc17 BK466.out) (fun hHeld => ?_)
     clear hK K
     refine norm_ (a' := ?_) ?_ ?_
     rotate_left
     ·show Act.put _ (some 53) _ = _
      simp only [Act.put, List.setIfInBounds_toArray, List.set_cons_zero, List.set_cons_succ, i64_w, i32_w]
      rfl
     refine one_ (i := 10) (N := some 54) #[true, true, true, true, true, true, true, true, true, true, true, true, true, false, false] rfl rfl (one_of HT_.out (by kernel_rfl)) (by decide) (fun K hK => ?_)
     refine goes_ Tryz.func97 (by kernel_rfl) rfl #[.slice Ao61 t470.length co61, .slice Ao62 y494.length co62] (by rfl) rfl rfl (by (try simp only [List.map_toArray, List.map_cons, List.map_nil]); first | done | rfl | (simp only [List.length_drop, List.length_take]; rfl)) ?_
     with_reducible refine (trivetref04_num.calls k _ _ t470 _ _ y494 t497 _ ?side1 ?side2 ?side3 ?side4 A49.out).mono ?_
     (case side1 => exact stC ((Kd.R_reads' HO472.out).2.2))
     (case side2 => exact (Kd.R_reads' HO472.out).2.1)
     (case side3 => exact stC ((Kd.R_reads' HO496.out).2.2))
     (case side4 => exact (Kd.R_reads' HO496.out).2.1)
     rintro e w63 ⟨v498, rfl, ho0, hb⟩
     refine ⟨_, rfl, ?_⟩
     have n0_ := Aside0.mk (Kd.R_below (stR HO469.out) hb)
     have n1_ := Aside0.mk (Kd.R_elder' (stR HO472.out) (Kd.R_base ho0) hb)
     have n2_ := Aside0.mk (Kd.R_below (stR HO496.out) hb)
     have n3_ := Aside0.mk (Kd.R_lower (Kd.R_new' ho0 (Kd.R_lt (stR HO472.out))) (below_size (by repeat (first | (with_reducible first | exact HB.out | apply below_alloc | apply pw_below_drewN | apply below_drew1 | refine below_set ?_ GE466.out) | exact HB.out))))
     have n4_ := Aside0.mk (blk_below (g := gb466) (o := .cells #[.int .i64 a0_0, .int .i64 a0_1, .int .i64 a0_2, .int .i64 a0_3, .int .i64 a0_4, .int .i64 a0_5, .int .i64 a0_6, .bool a0_7, .slice A0_8 l0_8.length c0_8, .int .i64 a0_9, .int .i64 a0_10, .int .i64 a0_11, .slice A0_12 l0_12.length c0_12, .int .i64 a0_13, .int .i64 a0_14, .int .i64 a0_15, .slice A0_16 l0_16.length c0_16] 34 (0, 0)) (stK BK466.out) hb)
     have n5_ := Aside0.mk (below_step (by repeat (first | (with_reducible first | exact HB.out | apply below_alloc | apply pw_below_drewN | apply below_drew1 | refine below_set ?_ GE466.out) | exact HB.out)) hb)
     clear HO469
     clear HO472
     clear HO496
     clear BK466
     clear HB
     have HO469 := n0_
     have HO472 := n1_
     have HO496 := n2_
     have HO499 := n3_
     have BK466 := n4_
     have HB := n5_
     clear n0_ n1_ n2_ n3_ n4_ n5_
     (try clear hb)
     (try clear hb2)
     (try clear hk)
     (try clear hi)
     (try clear ho0)
     obtain ⟨Ao64, co64, eo64⟩ := Kd.R_slice HO499.out
     (first | subst eo64 | (injection eo64 with f1_ f2_ f3_; have f4_ := f1_.symm; have f5_ := f3_.symm; clear f1_ f2_ f3_; subst f4_; subst f5_))
     refine hK.out _ _ (bc17 BK466.out) (fun hHeld => ?_)
     clear hK K
     refine norm_ (a' := ?_) ?_ ?_
     rotate_left
     ·show Act.put _ (some 54) _ = _
      simp only [Act.put, List.setIfInBounds_toArray, List.set_cons_zero, List.set_cons_succ, i64_w, i32_w]
      rfl
     refine one_ (i := 13) (N := some 57) #[true, true, true, true, true, true, true, true, true, true, true, true, true, true, false] rfl rfl (one_of HT_.out (by kernel_rfl)) (by decide) (fun K hK => ?_)
     refine goes_ Tryz.func105 (by kernel_rfl) rfl #[.slice Ao64 t497.length co64, .slice A0_8 l0_8.length c0_8] (by rfl) rfl rfl (by (try simp only [List.map_toArray, List.map_cons, List.map_nil]); first | done | rfl | (simp only [List.length_drop, List.length_take]; rfl)) ?_
     with_reducible refine (trivetref04_lists.calls k _ _ t497 _ _ l0_8 t500 _ ?side1 ?side2 ?side3 ?side4 A50.out).mono ?_
     (case side1 => exact stC ((Kd.R_reads' HO499.out).2.2))
     (case side2 => exact (Kd.R_reads' HO499.out).2.1)
     (case side3 => exact stC (Kd.C_below HR0_8.out HB.out))
     (case side4 => exact HC0_8.out)
     rintro e w65 ⟨v501, rfl, ho0, hb⟩
     refine ⟨_, rfl, ?_⟩
     have n0_ := Aside0.mk (Kd.R_below (stR HO469.out) hb)
     have n1_ := Aside0.mk (Kd.R_elder' (stR HO472.out) (Kd.R_base ho0) hb)
     have n2_ := Aside0.mk (Kd.R_below (stR HO496.out) hb)
     have n3_ := Aside0.mk (Kd.R_elder' (stR HO499.out) (Kd.R_base ho0) hb)
     have n4_ := Aside0.mk (Kd.R_lower (Kd.R_new' (Kd.R_new' ho0 (Kd.R_lt (stR HO472.out))) (Kd.R_lt (stR HO499.out))) (below_size (by repeat (first | (with_reducible first | exact HB.out | apply below_alloc | apply pw_below_drewN | apply below_drew1 | refine below_set ?_ GE466.out) | exact HB.out))))
     have n5_ := Aside0.mk (blk_below (g := gb466) (o := .cells #[.int .i64 a0_0, .int .i64 a0_1, .int .i64 a0_2, .int .i64 a0_3, .int .i64 a0_4, .int .i64 a0_5, .int .i64 a0_6, .bool a0_7, .slice A0_8 l0_8.length c0_8, .int .i64 a0_9, .int .i64 a0_10, .int .i64 a0_11, .slice A0_12 l0_12.length c0_12, .int .i64 a0_13, .int .i64 a0_14, .int .i64 a0_15, .slice A0_16 l0_16.length c0_16] 34 (0, 0)) (stK BK466.out) hb)
     have n6_ := Aside0.mk (below_step (by repeat (first | (with_reducible first | exact HB.out | apply below_alloc | apply pw_below_drewN | apply below_drew1 | refine below_set ?_ GE466.out) | exact HB.out)) hb)
     clear HO469
     clear HO472
     clear HO496
     clear HO499
     clear BK466
     clear HB
     have HO469 := n0_
     have HO472 := n1_
     have HO496 := n2_
     have HO499 := n3_
     have HO502 := n4_
     have BK466 := n5_
     have HB := n6_
     clear n0_ n1_ n2_ n3_ n4_ n5_ n6_
     (try clear hb)
     (try clear hb2)
     (try clear hk)
     (try clear hi)
     (try clear ho0)
     refine hK.out _ _ (bc17 BK466.out) (fun hHeld => ?_)
     clear hK K
     refine norm_ (a' := ?_) ?_ ?_
     rotate_left
     ·show Act.put _ (some 57) _ = _
      simp only [Act.put, List.setIfInBounds_toArray, List.set_cons_zero, List.set_cons_succ, i64_w, i32_w]
      rfl
     refine pure_ (i := 14) (N := some 2) (v := ?_) (a' := ?_) #[true, true, true, true, true, true, true, true, true, true, true, true, true, true, true] rfl rfl (any_of HT_.out (by kernel_rfl)) (fun _ _ _ h => h) (Or.inl ⟨by rfl, ?_⟩) ?_ ?_
     rotate_left
     ·intro w'
      go_simp
      with_reducible rfl
     rotate_left
     ·simp only [Act.put, List.setIfInBounds_toArray, List.set_cons_zero, List.set_cons_succ, i64_w, i32_w]
      rfl
     refine done_ (done_of HT_.out (by kernel_rfl)) ?_
     try go_wp2
     go_ret
     exact ⟨_, by first | rfl | (simp [errW_none, errW_some] <;> rfl) | (simp [*, errW_none, errW_some] <;> rfl), by (with_reducible repeat (first|apply Kd.R_alloc | apply Kd.R_drewN | apply Kd.R_drew)); exact Kd.R_mono HO502.out (fun _ hk => trivial), by repeat (first | (with_reducible first | exact HB.out | apply below_alloc | apply pw_below_drewN | apply below_drew1 | refine below_set ?_ GE466.out) | exact HB.out)⟩
    ·rw [if_neg c48] at H
     have c48b0 : (a0_0 == 3) = false := beq_eq_false_iff_ne.mpr c48
     have c48b1 : (a0_0 != 3) = true := bne_iff_ne.mpr c48
     by_cases c66 : a0_0 = 4
     ·rw [if_pos c66] at H
      have c66b0 : (a0_0 == 4) = true := beq_iff_eq.mpr c66
      have c66b1 : (a0_0 != 4) = false := bne_eq_false_iff_eq.mpr c66
      clear c66
      obtain ⟨y503, hy503⟩ : ∃ y_ : List Int, y_ = (([a0_3] : List Int)) := ⟨_, rfl⟩
      replace H : ((trivetref04_num.f k t470 y503).bind fun t506 => ((trivetref04_yes.f k t506 a0_7).bind fun t509 => ((trivetref04_num.f k t509 (([a0_4] : List Int))).bind fun t515 => (some t515)))) = some r := by first | (rw [hy503]; with_reducible exact H) | (have H2_ := (Option.bind_some _ _).symm.trans H; rw [hy503]; with_reducible exact H2_) | (have H2_ := (Option.bind_some _ _).symm.trans H; with_reducible exact H2_) | with_reducible exact H | (rw [hy503]; exact H) | exact H
      have Ny503 := Aside0.mk hy503
      clear hy503
      replace H := Option.bind_eq_some_iff.mp H
      obtain ⟨t506, A670, H⟩ := H
      replace H : ((trivetref04_yes.f k t506 a0_7).bind fun t509 => ((trivetref04_num.f k t509 (([a0_4] : List Int))).bind fun t515 => (some t515))) = some r := H
      have A67 := Aside0.mk A670
      clear A670
      replace H := Option.bind_eq_some_iff.mp H
      obtain ⟨t509, A680, H⟩ := H
      replace H : ((trivetref04_num.f k t509 (([a0_4] : List Int))).bind fun t515 => (some t515)) = some r := H
      have A68 := Aside0.mk A680
      clear A680
      obtain ⟨y512, hy512⟩ : ∃ y_ : List Int, y_ = (([a0_4] : List Int)) := ⟨_, rfl⟩
      replace H : ((trivetref04_num.f k t509 y512).bind fun t515 => (some t515)) = some r := by first | (rw [hy512]; with_reducible exact H) | (have H2_ := (Option.bind_some _ _).symm.trans H; rw [hy512]; with_reducible exact H2_) | (have H2_ := (Option.bind_some _ _).symm.trans H; with_reducible exact H2_) | with_reducible exact H | (rw [hy512]; exact H) | exact H
      have Ny512 := Aside0.mk hy512
      clear hy512
      replace H := Option.bind_eq_some_iff.mp H
      obtain ⟨t515, A690, H⟩ := H
      replace H : (some t515) = some r := H
      have A69 := Aside0.mk A690
      clear A690
      obtain rfl := Option.some.inj H
      go_enter Tryz.func52, Tryz.ntmps52
      try go_wp2_with (first | ((with_reducible refine gate_dst (N := 1) rfl ?_); refine box_event ?hg (N := 1) ?hd (cs := #[.int .i64 a0_0, .int .i64 a0_1, .int .i64 a0_2, .int .i64 a0_3, .int .i64 a0_4, .int .i64 a0_5, .int .i64 a0_6, .bool a0_7, .slice A0_8 l0_8.length c0_8, .int .i64 a0_9, .int .i64 a0_10, .int .i64 a0_11, .slice A0_12 l0_12.length c0_12, .int .i64 a0_13, .int .i64 a0_14, .int .i64 a0_15, .slice A0_16 l0_16.length c0_16]) (t := 34) ?hr ?_; (case hd => rfl); (case hg => rfl); (case hr => first | (go_simp; done) | (go_simp; rfl)); intro gb466 hg w70 hbox hb; have n0_ := Aside0.mk (below_step (stB HB.out) hb); have n1_ := Aside0.mk (hbox); have n2_ := Aside0.mk ((by rw [hg]; exact (below_size (stB HB.out)) : w.heap.size ≤ gb466)); have n3_ := Aside0.mk ((by rw [hg]; exact (below_size (stB HB.out)) : w.heap.size ≤ gb466)); clear HB; have HB := n0_; have BK466 := n1_; have GW466 := n2_; have GE466 := n3_; clear n0_ n1_ n2_ n3_; clear hb hbox hg; obtain ⟨hcz71_0, hcz71_1, hcz71_2, hcz71_3, hcz71_4, hcz71_5, hcz71_6, hcz71_7, hcz71_8, hcz71_9, hcz71_10, hcz71_11, hcz71_12, hcz71_13, hcz71_14, hcz71_15, hcz71_16⟩ := bc17 BK466.out; obtain ⟨hfz71_0, hfz71_1, hfz71_2, hfz71_3, hfz71_4, hfz71_5, hfz71_6, hfz71_7, hfz71_8, hfz71_9, hfz71_10, hfz71_11, hfz71_12, hfz71_13, hfz71_14, hfz71_15, hfz71_16⟩ := bf17 BK466.out) | ((with_reducible refine gate_dst (N := 10) rfl ?_); refine Kd.R_lit (Kd.int .i64) _ 2 ?hg (N := 10) ?hd (xs := ([a0_0, a0_1, a0_2] : List Int)) (inner := [.int .i64 a0_0, .int .i64 a0_1, .int .i64 a0_2]) (ok := fun _ => True) (okp := fun _ => True) ?hr ?hp (fun _ hk => hk) trivial (Below.refl _ _) (Nat.le_refl _) (by simp) ?_; (case hd => rfl); (case hg => rfl); (case hr => first | (go_simp; done) | (go_simp; rfl)); (case hp => exact (Reps.one (show Kd.M (Kd.int .i64) _ _ _ a0_0 [.int .i64 a0_0] from rfl) (Reps.one (show Kd.M (Kd.int .i64) _ _ _ a0_1 [.int .i64 a0_1] from rfl) (Reps.one (show Kd.M (Kd.int .i64) _ _ _ a0_2 [.int .i64 a0_2] from rfl) (Reps.none _ _))))); intro v468 w72 ho73 hb hg_ hnew_; clear hg_ hnew_; (first | rw [← Ny467.out] at ho73 | (simp only [Int.reduceToNat] at ho73; rw [← Ny467.out] at ho73)); have n0_ := Aside0.mk (Kd.R_lower ho73 (below_size (by repeat (first | (with_reducible first | exact HB.out | apply below_alloc | apply pw_below_drewN | apply below_drew1 | refine below_set ?_ GE466.out) | exact HB.out)))); have n1_ := Aside0.mk (blk_below (g := gb466) (o := .cells #[.int .i64 a0_0, .int .i64 a0_1, .int .i64 a0_2, .int .i64 a0_3, .int .i64 a0_4, .int .i64 a0_5, .int .i64 a0_6, .bool a0_7, .slice A0_8 l0_8.length c0_8, .int .i64 a0_9, .int .i64 a0_10, .int .i64 a0_11, .slice A0_12 l0_12.length c0_12, .int .i64 a0_13, .int .i64 a0_14, .int .i64 a0_15, .slice A0_16 l0_16.length c0_16] 34 (0, 0)) (stK BK466.out) hb); have n2_ := Aside0.mk (below_step (by repeat (first | (with_reducible first | exact HB.out | apply below_alloc | apply pw_below_drewN | apply below_drew1 | refine below_set ?_ GE466.out) | exact HB.out)) hb); clear BK466; clear HB; have HO469 := n0_; have BK466 := n1_; have HB := n2_; clear n0_ n1_ n2_; clear hb ho73; obtain ⟨Ao74, co74, eo74⟩ := Kd.R_slice HO469.out; subst eo74) | ((with_reducible refine gate_callee (f := 97) rfl ?_); refine goesL_ (some 11) rfl rfl Tryz.func97 (by kernel_rfl) rfl #[.slice none 0 0, .slice Ao74 y467.length co74] rfl (by (try simp only [List.map_toArray, List.map_cons, List.map_nil]); first | done | rfl | (simp only [List.length_drop, List.length_take]; rfl)) ?_; (refine (trivetref04_num.calls k _ _ ([] : List Int) _ _ y467 t470 _ ?side1 ?side2 ?side3 ?side4 A2.out).mono ?_); (case side1 => exact Kd.C_nil _ _); (case side2 => exact Nat.le_refl _); (case side3 => exact stC ((Kd.R_reads' HO469.out).2.2)); (case side4 => exact (Kd.R_reads' HO469.out).2.1); rintro e w75 ⟨v471, rfl, ho0, hb⟩; refine ⟨_, rfl, ?_⟩; have n0_ := Aside0.mk (Kd.R_below (stR HO469.out) hb); have n1_ := Aside0.mk (Kd.R_lower ho0 (below_size (by repeat (first | (with_reducible first | exact HB.out | apply below_alloc | apply pw_below_drewN | apply below_drew1 | refine below_set ?_ GE466.out) | exact HB.out)))); have n2_ := Aside0.mk (blk_below (g := gb466) (o := .cells #[.int .i64 a0_0, .int .i64 a0_1, .int .i64 a0_2, .int .i64 a0_3, .int .i64 a0_4, .int .i64 a0_5, .int .i64 a0_6, .bool a0_7, .slice A0_8 l0_8.length c0_8, .int .i64 a0_9, .int .i64 a0_10, .int .i64 a0_11, .slice A0_12 l0_12.length c0_12, .int .i64 a0_13, .int .i64 a0_14, .int .i64 a0_15, .slice A0_16 l0_16.length c0_16] 34 (0, 0)) (stK BK466.out) hb); have n3_ := Aside0.mk (below_step (by repeat (first | (with_reducible first | exact HB.out | apply below_alloc | apply pw_below_drewN | apply below_drew1 | refine below_set ?_ GE466.out) | exact HB.out)) hb); clear HO469; clear BK466; clear HB; have HO469 := n0_; have HO472 := n1_; have BK466 := n2_; have HB := n3_; clear n0_ n1_ n2_ n3_; (try clear hb); (try clear hb2); (try clear hk); (try clear hi); (try clear ho0); obtain ⟨hcz76_0, hcz76_1, hcz76_2, hcz76_3, hcz76_4, hcz76_5, hcz76_6, hcz76_7, hcz76_8, hcz76_9, hcz76_10, hcz76_11, hcz76_12, hcz76_13, hcz76_14, hcz76_15, hcz76_16⟩ := bc17 BK466.out; obtain ⟨hfz76_0, hfz76_1, hfz76_2, hfz76_3, hfz76_4, hfz76_5, hfz76_6, hfz76_7, hfz76_8, hfz76_9, hfz76_10, hfz76_11, hfz76_12, hfz76_13, hfz76_14, hfz76_15, hfz76_16⟩ := bf17 BK466.out; obtain ⟨Ao77, co77, eo77⟩ := Kd.R_slice HO472.out; subst eo77))
      have n0_ := Aside0.mk (Kd.R_drew HO469.out)
      have n1_ := Aside0.mk (Kd.R_drew HO472.out)
      have n2_ := Aside0.mk (blk_drew BK466.out)
      have n3_ := Aside0.mk (below_drew1 HB.out)
      clear HO469
      clear HO472
      clear BK466
      clear HB
      have HO469 := n0_
      have HO472 := n1_
      have BK466 := n2_
      have HB := n3_
      clear n0_ n1_ n2_ n3_
      refine start_ (n := 13) (S := fun w' => w'.cell? ⟨gb466, 0, none⟩ = some (.int .i64 a0_0) ∧ w'.cell? ⟨gb466, 1, none⟩ = some (.int .i64 a0_1) ∧ w'.cell? ⟨gb466, 2, none⟩ = some (.int .i64 a0_2) ∧ w'.cell? ⟨gb466, 3, none⟩ = some (.int .i64 a0_3) ∧ w'.cell? ⟨gb466, 4, none⟩ = some (.int .i64 a0_4) ∧ w'.cell? ⟨gb466, 5, none⟩ = some (.int .i64 a0_5) ∧ w'.cell? ⟨gb466, 6, none⟩ = some (.int .i64 a0_6) ∧ w'.cell? ⟨gb466, 7, none⟩ = some (.bool a0_7) ∧ w'.cell? ⟨gb466, 8, none⟩ = some (.slice A0_8 l0_8.length c0_8) ∧ w'.cell? ⟨gb466, 9, none⟩ = some (.int .i64 a0_9) ∧ w'.cell? ⟨gb466, 10, none⟩ = some (.int .i64 a0_10) ∧ w'.cell? ⟨gb466, 11, none⟩ = some (.int .i64 a0_11) ∧ w'.cell? ⟨gb466, 12, none⟩ = some (.slice A0_12 l0_12.length c0_12) ∧ w'.cell? ⟨gb466, 13, none⟩ = some (.int .i64 a0_13) ∧ w'.cell? ⟨gb466, 14, none⟩ = some (.int .i64 a0_14) ∧ w'.cell? ⟨gb466, 15, none⟩ = some (.int .i64 a0_15) ∧ w'.cell? ⟨gb466, 16, none⟩ = some (.slice A0_16 l0_16.length c0_16)) (ds := []) #[false, false, false, false, false, false, false, false, false, false, false, false, false] (by kernel_rfl) rfl rfl (bc17 BK466.out) (fun hHeld => ?_); refine with_tabW trivetref04_MsgForm.tab12 trivetref04_MsgForm.bits12 (fun HT_ HW_ => ?_)
      generalize w75.drew = w78 at HO469 HO472 BK466 HB hHeld ⊢
      refine pure_ (i := 0) (N := some 60) (v := ?_) (a' := ?_) #[true, false, false, false, false, false, false, false, false, false, false, false, false] rfl rfl (any_of HT_.out (by kernel_rfl)) (fun _ _ _ h => h) (Or.inl ⟨by rfl, ?_⟩) ?_ ?_
      rotate_left
      ·intro w'
       go_simp
       with_reducible rfl
      rotate_left
      ·simp only [Act.put, List.setIfInBounds_toArray, List.set_cons_zero, List.set_cons_succ, i64_w, i32_w]
       rfl
      refine pure_ (i := 1) (N := some 61) (v := ?_) (a' := ?_) #[true, true, false, false, false, false, false, false, false, false, false, false, false] rfl rfl (any_of HT_.out (by kernel_rfl)) (fun _ _ _ h => h) (Or.inl ⟨by rfl, ?_⟩) ?_ ?_
      rotate_left
      ·intro w'
       go_simp
       with_reducible rfl
      rotate_left
      ·simp only [Act.put, List.setIfInBounds_toArray, List.set_cons_zero, List.set_cons_succ, i64_w, i32_w]
       rfl
      refine pure_ (i := 5) (N := some 65) (v := ?_) (a' := ?_) #[true, true, false, false, false, true, false, false, false, false, false, false, false] rfl rfl (any_of HT_.out (by kernel_rfl)) (fun _ _ _ h => h) (Or.inl ⟨by rfl, ?_⟩) ?_ ?_
      rotate_left
      ·intro w'
       go_simp
       with_reducible rfl
      rotate_left
      ·simp only [Act.put, List.setIfInBounds_toArray, List.set_cons_zero, List.set_cons_succ, i64_w, i32_w]
       rfl
      refine pure_ (i := 8) (N := some 68) (v := ?_) (a' := ?_) #[true, true, false, false, false, true, false, false, true, false, false, false, false] rfl rfl (any_of HT_.out (by kernel_rfl)) (fun _ _ _ h => h) (Or.inl ⟨by rfl, ?_⟩) ?_ ?_
      rotate_left
      ·intro w'
       go_simp
       with_reducible rfl
      rotate_left
      ·simp only [Act.put, List.setIfInBounds_toArray, List.set_cons_zero, List.set_cons_succ, i64_w, i32_w]
       rfl
      refine take_ (i := 2) (N := some 62) (v := ?_) (a' := ?_) #[true, true, true, false, false, true, false, false, true, false, false, false, false] rfl rfl (take_ofW HT_.out HW_.out (by kernel_rfl)) (fun _ _ _ h => h) (Or.inl ⟨by rfl, ?_⟩) hHeld ?_ ?_
      rotate_left
      ·rintro w' ⟨s0, s1, s2, s3, s4, s5, s6, s7, s8, s9, s10, s11, s12, s13, s14, s15, s16⟩
       go_simp
       with_reducible rfl
      rotate_left
      ·simp only [Act.put, List.setIfInBounds_toArray, List.set_cons_zero, List.set_cons_succ, i64_w, i32_w]
       rfl
      refine take_ (i := 6) (N := some 66) (v := ?_) (a' := ?_) #[true, true, true, false, false, true, true, false, true, false, false, false, false] rfl rfl (take_ofW HT_.out HW_.out (by kernel_rfl)) (fun _ _ _ h => h) (Or.inl ⟨by rfl, ?_⟩) hHeld ?_ ?_
      rotate_left
      ·rintro w' ⟨s0, s1, s2, s3, s4, s5, s6, s7, s8, s9, s10, s11, s12, s13, s14, s15, s16⟩
       go_simp
       with_reducible rfl
      rotate_left
      ·simp only [Act.put, List.setIfInBounds_toArray, List.set_cons_zero, List.set_cons_succ, i64_w, i32_w]
       rfl
      refine take_ (i := 9) (N := some 69) (v := ?_) (a' := ?_) #[true, true, true, false, false, true, true, false, true, true, false, false, false] rfl rfl (take_ofW HT_.out HW_.out (by kernel_rfl)) (fun _ _ _ h => h) (Or.inl ⟨by rfl, ?_⟩) hHeld ?_ ?_
      rotate_left
      ·rintro w' ⟨s0, s1, s2, s3, s4, s5, s6, s7, s8, s9, s10, s11, s12, s13, s14, s15, s16⟩
       go_simp
       with_reducible rfl
      rotate_left
      ·simp only [Act.put, List.setIfInBounds_toArray, List.set_cons_zero, List.set_cons_succ, i64_w, i32_w]
       rfl
      refine join_ (σ := Value × Value × Value × Value) 2 #[true, true, true, true, true, true, true, true, true, true, true, false, false] (fun s_ => [(63, s_.1), (64, s_.2.1), (67, s_.2.2.1), (70, s_.2.2.2)]) (fun s_ w' => (w'.cell? ⟨gb466, 0, none⟩ = some (.int .i64 a0_0) ∧ w'.cell? ⟨gb466, 1, none⟩ = some (.int .i64 a0_1) ∧ w'.cell? ⟨gb466, 2, none⟩ = some (.int .i64 a0_2) ∧ w'.cell? ⟨gb466, 3, none⟩ = some (.int .i64 a0_3) ∧ w'.cell? ⟨gb466, 4, none⟩ = some (.int .i64 a0_4) ∧ w'.cell? ⟨gb466, 5, none⟩ = some (.int .i64 a0_5) ∧ w'.cell? ⟨gb466, 6, none⟩ = some (.int .i64 a0_6) ∧ w'.cell? ⟨gb466, 7, none⟩ = some (.bool a0_7) ∧ w'.cell? ⟨gb466, 8, none⟩ = some (.slice A0_8 l0_8.length c0_8) ∧ w'.cell? ⟨gb466, 9, none⟩ = some (.int .i64 a0_9) ∧ w'.cell? ⟨gb466, 10, none⟩ = some (.int .i64 a0_10) ∧ w'.cell? ⟨gb466, 11, none⟩ = some (.int .i64 a0_11) ∧ w'.cell? ⟨gb466, 12, none⟩ = some (.slice A0_12 l0_12.length c0_12) ∧ w'.cell? ⟨gb466, 13, none⟩ = some (.int .i64 a0_13) ∧ w'.cell? ⟨gb466, 14, none⟩ = some (.int .i64 a0_14) ∧ w'.cell? ⟨gb466, 15, none⟩ = some (.int .i64 a0_15) ∧ w'.cell? ⟨gb466, 16, none⟩ = some (.slice A0_16 l0_16.length c0_16)) ∧ (Kd.R (Kd.int .i64) 2 w' w.heap.size (fun k_ => some k_ ≠ (s_.1 : Value).ownBlock ∧ some k_ ≠ (s_.2.2.2 : Value).ownBlock) (.slice Ao74 y467.length co74) y467) ∧ (Kd.R (Kd.int .u8) 5 w' w.heap.size (fun k_ => some k_ ≠ (s_.2.1 : Value).ownBlock ∧ some k_ ≠ (s_.2.2.1 : Value).ownBlock) (.slice Ao77 t470.length co77) t470) ∧ (Kd.R (Kd.int .i64) 2 w' w.heap.size (fun k_ => some k_ ≠ (.slice Ao74 y467.length co74 : Value).ownBlock ∧ some k_ ≠ (s_.2.2.2 : Value).ownBlock) s_.1 y503) ∧ (Kd.R (Kd.int .u8) 5 w' w.heap.size (fun k_ => some k_ ≠ (.slice Ao77 t470.length co77 : Value).ownBlock ∧ some k_ ≠ (s_.2.2.1 : Value).ownBlock) s_.2.1 t506) ∧ (Kd.R (Kd.int .u8) 5 w' w.heap.size (fun k_ => some k_ ≠ (.slice Ao77 t470.length co77 : Value).ownBlock ∧ some k_ ≠ (s_.2.1 : Value).ownBlock) s_.2.2.1 t509) ∧ (Kd.R (Kd.int .i64) 2 w' w.heap.size (fun k_ => some k_ ≠ (.slice Ao74 y467.length co74 : Value).ownBlock ∧ some k_ ≠ (s_.1 : Value).ownBlock) s_.2.2.2 y512) ∧ (w'.heap[gb466]? = some (.cells #[.int .i64 a0_0, .int .i64 a0_1, .int .i64 a0_2, .int .i64 a0_3, .int .i64 a0_4, .int .i64 a0_5, .int .i64 a0_6, .bool a0_7, .slice A0_8 l0_8.length c0_8, .int .i64 a0_9, .int .i64 a0_10, .int .i64 a0_11, .slice A0_12 l0_12.length c0_12, .int .i64 a0_13, .int .i64 a0_14, .int .i64 a0_15, .slice A0_16 l0_16.length c0_16] 34 (0, 0))) ∧ (Below w.heap.size w w')) ?_ ?_
      rotate_left
      ·intro hCont
       refine two_ (i := 3) (j := 10) (Ni := some 63) (Nj := some 70) #[true, true, true, true, false, true, true, false, true, true, false, false, false] #[true, true, true, false, false, true, true, false, true, true, true, false, false] rfl rfl rfl rfl (two_of HT_.out (by kernel_rfl)) (by decide) (by decide) (fun K hK => ?_) (fun K hK => ?_)
       ·skip
        refine Kd.R_lit_step (Kd.int .i64) _ 2 ?hg (N := 63) ?hd (xs := ([a0_3] : List Int)) (inner := [.int .i64 a0_3]) (ok := fun _ => True) (okp := fun _ => True) ?hr ?hp (fun _ hk => hk) trivial (Below.refl _ _) (Nat.le_refl _) (by simp) ?_; (case hd => rfl); (case hg => rfl); (case hr => first | (go_simp; done) | (go_simp; rfl)); (case hp => exact (Reps.one (show Kd.M (Kd.int .i64) _ _ _ a0_3 [.int .i64 a0_3] from rfl) (Reps.none _ _)))
        intro v504 w79 ho80 hb hg_ hnew_
        clear hg_ hnew_
        (first | rw [← Ny503.out] at ho80 | (simp only [Int.reduceToNat] at ho80; rw [← Ny503.out] at ho80))
        have n0_ := Aside0.mk (Kd.R_elder' (stR HO469.out) (Kd.R_base ho80) hb)
        have n1_ := Aside0.mk (Kd.R_below (stR HO472.out) hb)
        have n2_ := Aside0.mk (Kd.R_lower (Kd.R_new' ho80 (Kd.R_lt (stR HO469.out))) (below_size (by repeat (first | (with_reducible first | exact HB.out | apply below_alloc | apply pw_below_drewN | apply below_drew1 | refine below_set ?_ GE466.out) | exact HB.out))))
        have n3_ := Aside0.mk (blk_below (g := gb466) (o := .cells #[.int .i64 a0_0, .int .i64 a0_1, .int .i64 a0_2, .int .i64 a0_3, .int .i64 a0_4, .int .i64 a0_5, .int .i64 a0_6, .bool a0_7, .slice A0_8 l0_8.length c0_8, .int .i64 a0_9, .int .i64 a0_10, .int .i64 a0_11, .slice A0_12 l0_12.length c0_12, .int .i64 a0_13, .int .i64 a0_14, .int .i64 a0_15, .slice A0_16 l0_16.length c0_16] 34 (0, 0)) (stK BK466.out) hb)
        have n4_ := Aside0.mk (below_step (by repeat (first | (with_reducible first | exact HB.out | apply below_alloc | apply pw_below_drewN | apply below_drew1 | refine below_set ?_ GE466.out) | exact HB.out)) hb)
        clear HO469
        clear HO472
        clear BK466
        clear HB
        have HO469 := n0_
        have HO472 := n1_
        have HO505 := n2_
        have BK466 := n3_
        have HB := n4_
        clear n0_ n1_ n2_ n3_ n4_
        clear hb ho80
        obtain ⟨Ao81, co81, eo81⟩ := Kd.R_slice HO505.out
        (first | subst eo81 | (injection eo81 with f1_ f2_ f3_; have f4_ := f1_.symm; have f5_ := f3_.symm; clear f1_ f2_ f3_; subst f4_; subst f5_))
        refine hK.out _ _ (bc17 BK466.out) (fun hHeld => ?_)
        clear hK K
        refine norm_ (a' := ?_) ?_ ?_
        rotate_left
        ·show Act.put _ (some 63) _ = _
         simp only [Act.put, List.setIfInBounds_toArray, List.set_cons_zero, List.set_cons_succ, i64_w, i32_w]
         rfl
        refine two_ (i := 4) (j := 10) (Ni := some 64) (Nj := some 70) #[true, true, true, true, true, true, true, false, true, true, false, false, false] #[true, true, true, true, false, true, true, false, true, true, true, false, false] rfl rfl rfl rfl (two_of HT_.out (by kernel_rfl)) (by decide) (by decide) (fun K hK => ?_) (fun K hK => ?_)
        ·skip
         refine goes_ Tryz.func97 (by kernel_rfl) rfl #[.slice Ao77 t470.length co77, .slice Ao81 y503.length co81] (by rfl) rfl rfl (by (try simp only [List.map_toArray, List.map_cons, List.map_nil]); first | done | rfl | (simp only [List.length_drop, List.length_take]; rfl)) ?_
         with_reducible refine (trivetref04_num.calls k _ _ t470 _ _ y503 t506 _ ?side1 ?side2 ?side3 ?side4 A67.out).mono ?_
         (case side1 => exact stC ((Kd.R_reads' HO472.out).2.2))
         (case side2 => exact (Kd.R_reads' HO472.out).2.1)
         (case side3 => exact stC ((Kd.R_reads' HO505.out).2.2))
         (case side4 => exact (Kd.R_reads' HO505.out).2.1)
         rintro e w82 ⟨v507, rfl, ho0, hb⟩
         refine ⟨_, rfl, ?_⟩
         have n0_ := Aside0.mk (Kd.R_below (stR HO469.out) hb)
         have n1_ := Aside0.mk (Kd.R_elder' (stR HO472.out) (Kd.R_base ho0) hb)
         have n2_ := Aside0.mk (Kd.R_below (stR HO505.out) hb)
         have n3_ := Aside0.mk (Kd.R_lower (Kd.R_new' ho0 (Kd.R_lt (stR HO472.out))) (below_size (by repeat (first | (with_reducible first | exact HB.out | apply below_alloc | apply pw_below_drewN | apply below_drew1 | refine below_set ?_ GE466.out) | exact HB.out))))
         have n4_ := Aside0.mk (blk_below (g := gb466) (o := .cells #[.int .i64 a0_0, .int .i64 a0_1, .int .i64 a0_2, .int .i64 a0_3, .int .i64 a0_4, .int .i64 a0_5, .int .i64 a0_6, .bool a0_7, .slice A0_8 l0_8.length c0_8, .int .i64 a0_9, .int .i64 a0_10, .int .i64 a0_11, .slice A0_12 l0_12.length c0_12, .int .i64 a0_13, .int .i64 a0_14, .int .i64 a0_15, .slice A0_16 l0_16.length c0_16] 34 (0, 0)) (stK BK466.out) hb)
         have n5_ := Aside0.mk (below_step (by repeat (first | (with_reducible first | exact HB.out | apply below_alloc | apply pw_below_drewN | apply below_drew1 | refine below_set ?_ GE466.out) | exact HB.out)) hb)
         clear HO469
         clear HO472
         clear HO505
         clear BK466
         clear HB
         have HO469 := n0_
         have HO472 := n1_
         have HO505 := n2_
         have HO508 := n3_
         have BK466 := n4_
         have HB := n5_
         clear n0_ n1_ n2_ n3_ n4_ n5_
         (try clear hb)
         (try clear hb2)
         (try clear hk)
         (try clear hi)
         (try clear ho0)
         obtain ⟨Ao83, co83, eo83⟩ := Kd.R_slice HO508.out
         (first | subst eo83 | (injection eo83 with f1_ f2_ f3_; have f4_ := f1_.symm; have f5_ := f3_.symm; clear f1_ f2_ f3_; subst f4_; subst f5_))
         refine hK.out _ _ (bc17 BK466.out) (fun hHeld => ?_)
         clear hK K
         refine norm_ (a' := ?_) ?_ ?_
         rotate_left
         ·show Act.put _ (some 64) _ = _
          simp only [Act.put, List.setIfInBounds_toArray, List.set_cons_zero, List.set_cons_succ, i64_w, i32_w]
          rfl
         refine two_ (i := 7) (j := 10) (Ni := some 67) (Nj := some 70) #[true, true, true, true, true, true, true, true, true, true, false, false, false] #[true, true, true, true, true, true, true, false, true, true, true, false, false] rfl rfl rfl rfl (two_of HT_.out (by kernel_rfl)) (by decide) (by decide) (fun K hK => ?_) (fun K hK => ?_)
         ·skip
          refine goes_ Tryz.func104 (by kernel_rfl) rfl #[.slice Ao83 t506.length co83, .bool a0_7] (by rfl) rfl rfl (by (try simp only [List.map_toArray, List.map_cons, List.map_nil]); first | done | rfl | (simp only [List.length_drop, List.length_take]; rfl)) ?_
          with_reducible refine (trivetref04_yes.calls k _ _ t506 a0_7 t509 _ ?side1 ?side2 A68.out).mono ?_
          (case side1 => exact stC ((Kd.R_reads' HO508.out).2.2))
          (case side2 => exact (Kd.R_reads' HO508.out).2.1)
          rintro e w84 ⟨v510, rfl, ho0, hb⟩
          refine ⟨_, rfl, ?_⟩
          have n0_ := Aside0.mk (Kd.R_below (stR HO469.out) hb)
          have n1_ := Aside0.mk (Kd.R_elder' (stR HO472.out) (Kd.R_base ho0) hb)
          have n2_ := Aside0.mk (Kd.R_below (stR HO505.out) hb)
          have n3_ := Aside0.mk (Kd.R_elder' (stR HO508.out) (Kd.R_base ho0) hb)
          have n4_ := Aside0.mk (Kd.R_lower (Kd.R_new' (Kd.R_new' ho0 (Kd.R_lt (stR HO472.out))) (Kd.R_lt (stR HO508.out))) (below_size (by repeat (first | (with_reducible first | exact HB.out | apply below_alloc | apply pw_below_drewN | apply below_drew1 | refine below_set ?_ GE466.out) | exact HB.out))))
          have n5_ := Aside0.mk (blk_below (g := gb466) (o := .cells #[.int .i64 a0_0, .int .i64 a0_1, .int .i64 a0_2, .int .i64 a0_3, .int .i64 a0_4, .int .i64 a0_5, .int .i64 a0_6, .bool a0_7, .slice A0_8 l0_8.length c0_8, .int .i64 a0_9, .int .i64 a0_10, .int .i64 a0_11, .slice A0_12 l0_12.length c0_12, .int .i64 a0_13, .int .i64 a0_14, .int .i64 a0_15, .slice A0_16 l0_16.length c0_16] 34 (0, 0)) (stK BK466.out) hb)
          have n6_ := Aside0.mk (below_step (by repeat (first | (with_reducible first | exact HB.out | apply below_alloc | apply pw_below_drewN | apply below_drew1 | refine below_set ?_ GE466.out) | exact HB.out)) hb)
          clear HO469
          clear HO472
          clear HO505
          clear HO508
          clear BK466
          clear HB
          have HO469 := n0_
          have HO472 := n1_
          have HO505 := n2_
          have HO508 := n3_
          have HO511 := n4_
          have BK466 := n5_
          have HB := n6_
          clear n0_ n1_ n2_ n3_ n4_ n5_ n6_
          (try clear hb)
          (try clear hb2)
          (try clear hk)
          (try clear hi)
          (try clear ho0)
          refine hK.out _ _ (bc17 BK466.out) (fun hHeld => ?_)
          clear hK K
          refine norm_ (a' := ?_) ?_ ?_
          rotate_left
          ·show Act.put _ (some 67) _ = _
           simp only [Act.put, List.setIfInBounds_toArray, List.set_cons_zero, List.set_cons_succ, i64_w, i32_w]
           rfl
          refine one_ (i := 10) (N := some 70) #[true, true, true, true, true, true, true, true, true, true, true, false, false] rfl rfl (one_of HT_.out (by kernel_rfl)) (by decide) (fun K hK => ?_)
          refine Kd.R_lit_step (Kd.int .i64) _ 2 ?hg (N := 70) ?hd (xs := ([a0_4] : List Int)) (inner := [.int .i64 a0_4]) (ok := fun _ => True) (okp := fun _ => True) ?hr ?hp (fun _ hk => hk) trivial (Below.refl _ _) (Nat.le_refl _) (by simp) ?_; (case hd => rfl); (case hg => rfl); (case hr => first | (go_simp; done) | (go_simp; rfl)); (case hp => exact (Reps.one (show Kd.M (Kd.int .i64) _ _ _ a0_4 [.int .i64 a0_4] from rfl) (Reps.none _ _)))
          intro v513 w85 ho86 hb hg_ hnew_
          clear hg_ hnew_
          (first | rw [← Ny512.out] at ho86 | (simp only [Int.reduceToNat] at ho86; rw [← Ny512.out] at ho86))
          have n0_ := Aside0.mk (Kd.R_elder' (stR HO469.out) (Kd.R_base ho86) hb)
          have n1_ := Aside0.mk (Kd.R_below (stR HO472.out) hb)
          have n2_ := Aside0.mk (Kd.R_elder' (stR HO505.out) (Kd.R_base ho86) hb)
          have n3_ := Aside0.mk (Kd.R_below (stR HO508.out) hb)
          have n4_ := Aside0.mk (Kd.R_below (stR HO511.out) hb)
          have n5_ := Aside0.mk (Kd.R_lower (Kd.R_new' (Kd.R_new' ho86 (Kd.R_lt (stR HO469.out))) (Kd.R_lt (stR HO505.out))) (below_size (by repeat (first | (with_reducible first | exact HB.out | apply below_alloc | apply pw_below_drewN | apply below_drew1 | refine below_set ?_ GE466.out) | exact HB.out))))
          have n6_ := Aside0.mk (blk_below (g := gb466) (o := .cells #[.int .i64 a0_0, .int .i64 a0_1, .int .i64 a0_2, .int .i64 a0_3, .int .i64 a0_4, .int .i64 a0_5, .int .i64 a0_6, .bool a0_7, .slice A0_8 l0_8.length c0_8, .int .i64 a0_9, .int .i64 a0_10, .int .i64 a0_11, .slice A0_12 l0_12.length c0_12, .int .i64 a0_13, .int .i64 a0_14, .int .i64 a0_15, .slice A0_16 l0_16.length c0_16] 34 (0, 0)) (stK BK466.out) hb)
          have n7_ := Aside0.mk (below_step (by repeat (first | (with_reducible first | exact HB.out | apply below_alloc | apply pw_below_drewN | apply below_drew1 | refine below_set ?_ GE466.out) | exact HB.out)) hb)
          clear HO469
          clear HO472
          clear HO505
          clear HO508
          clear HO511
          clear BK466
          clear HB
          have HO469 := n0_
          have HO472 := n1_
          have HO505 := n2_
          have HO508 := n3_
          have HO511 := n4_
          have HO514 := n5_
          have BK466 := n6_
          have HB := n7_
          clear n0_ n1_ n2_ n3_ n4_ n5_ n6_ n7_
          clear hb ho86
          refine hK.out _ _ (bc17 BK466.out) (fun hHeld => ?_)
          clear hK K
          refine norm_ (a' := ?_) ?_ ?_
          rotate_left
          ·show Act.put _ (some 70) _ = _
           simp only [Act.put, List.setIfInBounds_toArray, List.set_cons_zero, List.set_cons_succ, i64_w, i32_w]
           rfl
          exact norm_ (by simp only [putAll, Act.put, List.setIfInBounds_toArray, List.set_cons_zero, List.set_cons_succ]) (hCont (.slice Ao81 y503.length co81, .slice Ao83 t506.length co83, v510, v513) _ ⟨hHeld, (by (with_reducible repeat (first|apply Kd.R_alloc | apply Kd.R_drewN | apply Kd.R_drew)); exact Kd.R_mono HO469.out (fun _ hk => ⟨hk.1.2, hk.2⟩)), (by (with_reducible repeat (first|apply Kd.R_alloc | apply Kd.R_drewN | apply Kd.R_drew)); exact Kd.R_mono HO472.out (fun _ hk => ⟨hk.1.2, hk.2⟩)), (by (with_reducible repeat (first|apply Kd.R_alloc | apply Kd.R_drewN | apply Kd.R_drew)); exact Kd.R_mono HO505.out (fun _ hk => ⟨hk.1.2, hk.2⟩)), (by (with_reducible repeat (first|apply Kd.R_alloc | apply Kd.R_drewN | apply Kd.R_drew)); exact Kd.R_mono HO508.out (fun _ hk => ⟨hk.1.2, hk.2⟩)), (by (with_reducible repeat (first|apply Kd.R_alloc | apply Kd.R_drewN | apply Kd.R_drew)); exact Kd.R_mono HO511.out (fun _ hk => ⟨hk.1.2, hk.2⟩)), (by (with_reducible repeat (first|apply Kd.R_alloc | apply Kd.R_drewN | apply Kd.R_drew)); exact Kd.R_mono HO514.out (fun _ hk => ⟨hk.1.2, hk.2⟩)), (stK BK466.out), (by repeat (first | (with_reducible first | exact HB.out | apply below_alloc | apply pw_below_drewN | apply below_drew1 | refine below_set ?_ GE466.out) | exact HB.out))⟩)
         ·skip
          refine Kd.R_lit_step (Kd.int .i64) _ 2 ?hg (N := 70) ?hd (xs := ([a0_4] : List Int)) (inner := [.int .i64 a0_4]) (ok := fun _ => True) (okp := fun _ => True) ?hr ?hp (fun _ hk => hk) trivial (Below.refl _ _) (Nat.le_refl _) (by simp) ?_; (case hd => rfl); (case hg => rfl); (case hr => first | (go_simp; done) | (go_simp; rfl)); (case hp => exact (Reps.one (show Kd.M (Kd.int .i64) _ _ _ a0_4 [.int .i64 a0_4] from rfl) (Reps.none _ _)))
          intro v513 w83 ho84 hb hg_ hnew_
          clear hg_ hnew_
          (first | rw [← Ny512.out] at ho84 | (simp only [Int.reduceToNat] at ho84; rw [← Ny512.out] at ho84))
          have n0_ := Aside0.mk (Kd.R_elder' (stR HO469.out) (Kd.R_base ho84) hb)
          have n1_ := Aside0.mk (Kd.R_below (stR HO472.out) hb)
          have n2_ := Aside0.mk (Kd.R_elder' (stR HO505.out) (Kd.R_base ho84) hb)
          have n3_ := Aside0.mk (Kd.R_below (stR HO508.out) hb)
          have n4_ := Aside0.mk (Kd.R_lower (Kd.R_new' (Kd.R_new' ho84 (Kd.R_lt (stR HO469.out))) (Kd.R_lt (stR HO505.out))) (below_size (by repeat (first | (with_reducible first | exact HB.out | apply below_alloc | apply pw_below_drewN | apply below_drew1 | refine below_set ?_ GE466.out) | exact HB.out))))
          have n5_ := Aside0.mk (blk_below (g := gb466) (o := .cells #[.int .i64 a0_0, .int .i64 a0_1, .int .i64 a0_2, .int .i64 a0_3, .int .i64 a0_4, .int .i64 a0_5, .int .i64 a0_6, .bool a0_7, .slice A0_8 l0_8.length c0_8, .int .i64 a0_9, .int .i64 a0_10, .int .i64 a0_11, .slice A0_12 l0_12.length c0_12, .int .i64 a0_13, .int .i64 a0_14, .int .i64 a0_15, .slice A0_16 l0_16.length c0_16] 34 (0, 0)) (stK BK466.out) hb)
          have n6_ := Aside0.mk (below_step (by repeat (first | (with_reducible first | exact HB.out | apply below_alloc | apply pw_below_drewN | apply below_drew1 | refine below_set ?_ GE466.out) | exact HB.out)) hb)
          clear HO469
          clear HO472
          clear HO505
          clear HO508
          clear BK466
          clear HB
          have HO469 := n0_
          have HO472 := n1_
          have HO505 := n2_
          have HO508 := n3_
          have HO514 := n4_
          have BK466 := n5_
          have HB := n6_
          clear n0_ n1_ n2_ n3_ n4_ n5_ n6_
          clear hb ho84
          obtain ⟨Ao85, co85, eo85⟩ := Kd.R_slice HO508.out
          (first | subst eo85 | (injection eo85 with f1_ f2_ f3_; have f4_ := f1_.symm; have f5_ := f3_.symm; clear f1_ f2_ f3_; subst f4_; subst f5_))
          refine hK.out _ _ (bc17 BK466.out) (fun hHeld => ?_)
          clear hK K
          refine norm_ (a' := ?_) ?_ ?_
          rotate_left
          ·show Act.put _ (some 70) _ = _
           simp only [Act.put, List.setIfInBounds_toArray, List.set_cons_zero, List.set_cons_succ, i64_w, i32_w]
           rfl
          refine one_ (i := 7) (N := some 67) #[true, true, true, true, true, true, true, true, true, true, true, false, false] rfl rfl (one_of HT_.out (by kernel_rfl)) (by decide) (fun K hK => ?_)
          refine goes_ Tryz.func104 (by kernel_rfl) rfl #[.slice Ao85 t506.length co85, .bool a0_7] (by rfl) rfl rfl (by (try simp only [List.map_toArray, List.map_cons, List.map_nil]); first | done | rfl | (simp only [List.length_drop, List.length_take]; rfl)) ?_
          with_reducible refine (trivetref04_yes.calls k _ _ t506 a0_7 t509 _ ?side1 ?side2 A68.out).mono ?_
          (case side1 => exact stC ((Kd.R_reads' HO508.out).2.2))
          (case side2 => exact (Kd.R_reads' HO508.out).2.1)
          rintro e w86 ⟨v510, rfl, ho0, hb⟩
          refine ⟨_, rfl, ?_⟩
          have n0_ := Aside0.mk (Kd.R_below (stR HO469.out) hb)
          have n1_ := Aside0.mk (Kd.R_elder' (stR HO472.out) (Kd.R_base ho0) hb)
          have n2_ := Aside0.mk (Kd.R_below (stR HO505.out) hb)
          have n3_ := Aside0.mk (Kd.R_elder' (stR HO508.out) (Kd.R_base ho0) hb)
          have n4_ := Aside0.mk (Kd.R_below (stR HO514.out) hb)
          have n5_ := Aside0.mk (Kd.R_lower (Kd.R_new' (Kd.R_new' ho0 (Kd.R_lt (stR HO472.out))) (Kd.R_lt (stR HO508.out))) (below_size (by repeat (first | (with_reducible first | exact HB.out | apply below_alloc | apply pw_below_drewN | apply below_drew1 | refine below_set ?_ GE466.out) | exact HB.out))))
          have n6_ := Aside0.mk (blk_below (g := gb466) (o := .cells #[.int .i64 a0_0, .int .i64 a0_1, .int .i64 a0_2, .int .i64 a0_3, .int .i64 a0_4, .int .i64 a0_5, .int .i64 a0_6, .bool a0_7, .slice A0_8 l0_8.length c0_8, .int .i64 a0_9, .int .i64 a0_10, .int .i64 a0_11, .slice A0_12 l0_12.length c0_12, .int .i64 a0_13, .int .i64 a0_14, .int .i64 a0_15, .slice A0_16 l0_16.length c0_16] 34 (0, 0)) (stK BK466.out) hb)
          have n7_ := Aside0.mk (below_step (by repeat (first | (with_reducible first | exact HB.out | apply below_alloc | apply pw_below_drewN | apply below_drew1 | refine below_set ?_ GE466.out) | exact HB.out)) hb)
          clear HO469
          clear HO472
          clear HO505
          clear HO508
          clear HO514
          clear BK466
          clear HB
          have HO469 := n0_
          have HO472 := n1_
          have HO505 := n2_
          have HO508 := n3_
          have HO514 := n4_
          have HO511 := n5_
          have BK466 := n6_
          have HB := n7_
          clear n0_ n1_ n2_ n3_ n4_ n5_ n6_ n7_
          (try clear hb)
          (try clear hb2)
          (try clear hk)
          (try clear hi)
          (try clear ho0)
          refine hK.out _ _ (bc17 BK466.out) (fun hHeld => ?_)
          clear hK K
          refine norm_ (a' := ?_) ?_ ?_
          rotate_left
          ·show Act.put _ (some 67) _ = _
           simp only [Act.put, List.setIfInBounds_toArray, List.set_cons_zero, List.set_cons_succ, i64_w, i32_w]
           rfl
          exact norm_ (by simp only [putAll, Act.put, List.setIfInBounds_toArray, List.set_cons_zero, List.set_cons_succ]) (hCont (.slice Ao81 y503.length co81, .slice Ao85 t506.length co85, v510, v513) _ ⟨hHeld, (by (with_reducible repeat (first|apply Kd.R_alloc | apply Kd.R_drewN | apply Kd.R_drew)); exact Kd.R_mono HO469.out (fun _ hk => ⟨hk.1.2, hk.2⟩)), (by (with_reducible repeat (first|apply Kd.R_alloc | apply Kd.R_drewN | apply Kd.R_drew)); exact Kd.R_mono HO472.out (fun _ hk => ⟨hk.1.2, hk.2⟩)), (by (with_reducible repeat (first|apply Kd.R_alloc | apply Kd.R_drewN | apply Kd.R_drew)); exact Kd.R_mono HO505.out (fun _ hk => ⟨hk.1.2, hk.2⟩)), (by (with_reducible repeat (first|apply Kd.R_alloc | apply Kd.R_drewN | apply Kd.R_drew)); exact Kd.R_mono HO508.out (fun _ hk => ⟨hk.1.2, hk.2⟩)), (by (with_reducible repeat (first|apply Kd.R_alloc | apply Kd.R_drewN | apply Kd.R_drew)); exact Kd.R_mono HO511.out (fun _ hk => ⟨hk.1.2, hk.2⟩)), (by (with_reducible repeat (first|apply Kd.R_alloc | apply Kd.R_drewN | apply Kd.R_drew)); exact Kd.R_mono HO514.out (fun _ hk => ⟨hk.1.2, hk.2⟩)), (stK BK466.out), (by repeat (first | (with_reducible first | exact HB.out | apply below_alloc | apply pw_below_drewN | apply below_drew1 | refine below_set ?_ GE466.out) | exact HB.out))⟩)
        ·skip
         refine Kd.R_lit_step (Kd.int .i64) _ 2 ?hg (N := 70) ?hd (xs := ([a0_4] : List Int)) (inner := [.int .i64 a0_4]) (ok := fun _ => True) (okp := fun _ => True) ?hr ?hp (fun _ hk => hk) trivial (Below.refl _ _) (Nat.le_refl _) (by simp) ?_; (case hd => rfl); (case hg => rfl); (case hr => first | (go_simp; done) | (go_simp; rfl)); (case hp => exact (Reps.one (show Kd.M (Kd.int .i64) _ _ _ a0_4 [.int .i64 a0_4] from rfl) (Reps.none _ _)))
         intro v513 w81 ho82 hb hg_ hnew_
         clear hg_ hnew_
         (first | rw [← Ny512.out] at ho82 | (simp only [Int.reduceToNat] at ho82; rw [← Ny512.out] at ho82))
         have n0_ := Aside0.mk (Kd.R_elder' (stR HO469.out) (Kd.R_base ho82) hb)
         have n1_ := Aside0.mk (Kd.R_below (stR HO472.out) hb)
         have n2_ := Aside0.mk (Kd.R_elder' (stR HO505.out) (Kd.R_base ho82) hb)
         have n3_ := Aside0.mk (Kd.R_lower (Kd.R_new' (Kd.R_new' ho82 (Kd.R_lt (stR HO469.out))) (Kd.R_lt (stR HO505.out))) (below_size (by repeat (first | (with_reducible first | exact HB.out | apply below_alloc | apply pw_below_drewN | apply below_drew1 | refine below_set ?_ GE466.out) | exact HB.out))))
         have n4_ := Aside0.mk (blk_below (g := gb466) (o := .cells #[.int .i64 a0_0, .int .i64 a0_1, .int .i64 a0_2, .int .i64 a0_3, .int .i64 a0_4, .int .i64 a0_5, .int .i64 a0_6, .bool a0_7, .slice A0_8 l0_8.length c0_8, .int .i64 a0_9, .int .i64 a0_10, .int .i64 a0_11, .slice A0_12 l0_12.length c0_12, .int .i64 a0_13, .int .i64 a0_14, .int .i64 a0_15, .slice A0_16 l0_16.length c0_16] 34 (0, 0)) (stK BK466.out) hb)
         have n5_ := Aside0.mk (below_step (by repeat (first | (with_reducible first | exact HB.out | apply below_alloc | apply pw_below_drewN | apply below_drew1 | refine below_set ?_ GE466.out) | exact HB.out)) hb)
         clear HO469
         clear HO472
         clear HO505
         clear BK466
         clear HB
         have HO469 := n0_
         have HO472 := n1_
         have HO505 := n2_
         have HO514 := n3_
         have BK466 := n4_
         have HB := n5_
         clear n0_ n1_ n2_ n3_ n4_ n5_
         clear hb ho82
         obtain ⟨Ao83, co83, eo83⟩ := Kd.R_slice HO505.out
         (first | subst eo83 | (injection eo83 with f1_ f2_ f3_; have f4_ := f1_.symm; have f5_ := f3_.symm; clear f1_ f2_ f3_; subst f4_; subst f5_))
         refine hK.out _ _ (bc17 BK466.out) (fun hHeld => ?_)
         clear hK K
         refine norm_ (a' := ?_) ?_ ?_
         rotate_left
         ·show Act.put _ (some 70) _ = _
          simp only [Act.put, List.setIfInBounds_toArray, List.set_cons_zero, List.set_cons_succ, i64_w, i32_w]
          rfl
         refine one_ (i := 4) (N := some 64) #[true, true, true, true, true, true, true, false, true, true, true, false, false] rfl rfl (one_of HT_.out (by kernel_rfl)) (by decide) (fun K hK => ?_)
         refine goes_ Tryz.func97 (by kernel_rfl) rfl #[.slice Ao77 t470.length co77, .slice Ao83 y503.length co83] (by rfl) rfl rfl (by (try simp only [List.map_toArray, List.map_cons, List.map_nil]); first | done | rfl | (simp only [List.length_drop, List.length_take]; rfl)) ?_
         with_reducible refine (trivetref04_num.calls k _ _ t470 _ _ y503 t506 _ ?side1 ?side2 ?side3 ?side4 A67.out).mono ?_
         (case side1 => exact stC ((Kd.R_reads' HO472.out).2.2))
         (case side2 => exact (Kd.R_reads' HO472.out).2.1)
         (case side3 => exact stC ((Kd.R_reads' HO505.out).2.2))
         (case side4 => exact (Kd.R_reads' HO505.out).2.1)
         rintro e w84 ⟨v507, rfl, ho0, hb⟩
         refine ⟨_, rfl, ?_⟩
         have n0_ := Aside0.mk (Kd.R_below (stR HO469.out) hb)
         have n1_ := Aside0.mk (Kd.R_elder' (stR HO472.out) (Kd.R_base ho0) hb)
         have n2_ := Aside0.mk (Kd.R_below (stR HO505.out) hb)
         have n3_ := Aside0.mk (Kd.R_below (stR HO514.out) hb)
         have n4_ := Aside0.mk (Kd.R_lower (Kd.R_new' ho0 (Kd.R_lt (stR HO472.out))) (below_size (by repeat (first | (with_reducible first | exact HB.out | apply below_alloc | apply pw_below_drewN | apply below_drew1 | refine below_set ?_ GE466.out) | exact HB.out))))
         have n5_ := Aside0.mk (blk_below (g := gb466) (o := .cells #[.int .i64 a0_0, .int .i64 a0_1, .int .i64 a0_2, .int .i64 a0_3, .int .i64 a0_4, .int .i64 a0_5, .int .i64 a0_6, .bool a0_7, .slice A0_8 l0_8.length c0_8, .int .i64 a0_9, .int .i64 a0_10, .int .i64 a0_11, .slice A0_12 l0_12.length c0_12, .int .i64 a0_13, .int .i64 a0_14, .int .i64 a0_15, .slice A0_16 l0_16.length c0_16] 34 (0, 0)) (stK BK466.out) hb)
         have n6_ := Aside0.mk (below_step (by repeat (first | (with_reducible first | exact HB.out | apply below_alloc | apply pw_below_drewN | apply below_drew1 | refine below_set ?_ GE466.out) | exact HB.out)) hb)
         clear HO469
         clear HO472
         clear HO505
         clear HO514
         clear BK466
         clear HB
         have HO469 := n0_
         have HO472 := n1_
         have HO505 := n2_
         have HO514 := n3_
         have HO508 := n4_
         have BK466 := n5_
         have HB := n6_
         clear n0_ n1_ n2_ n3_ n4_ n5_ n6_
         (try clear hb)
         (try clear hb2)
         (try clear hk)
         (try clear hi)
         (try clear ho0)
         obtain ⟨Ao85, co85, eo85⟩ := Kd.R_slice HO508.out
         (first | subst eo85 | (injection eo85 with f1_ f2_ f3_; have f4_ := f1_.symm; have f5_ := f3_.symm; clear f1_ f2_ f3_; subst f4_; subst f5_))
         refine hK.out _ _ (bc17 BK466.out) (fun hHeld => ?_)
         clear hK K
         refine norm_ (a' := ?_) ?_ ?_
         rotate_left
         ·show Act.put _ (some 64) _ = _
          simp only [Act.put, List.setIfInBounds_toArray, List.set_cons_zero, List.set_cons_succ, i64_w, i32_w]
          rfl
         refine one_ (i := 7) (N := some 67) #[true, true, true, true, true, true, true, true, true, true, true, false, false] rfl rfl (one_of HT_.out (by kernel_rfl)) (by decide) (fun K hK => ?_)
         refine goes_ Tryz.func104 (by kernel_rfl) rfl #[.slice Ao85 t506.length co85, .bool a0_7] (by rfl) rfl rfl (by (try simp only [List.map_toArray, List.map_cons, List.map_nil]); first | done | rfl | (simp only [List.length_drop, List.length_take]; rfl)) ?_
         with_reducible refine (trivetref04_yes.calls k _ _ t506 a0_7 t509 _ ?side1 ?side2 A68.out).mono ?_
         (case side1 => exact stC ((Kd.R_reads' HO508.out).2.2))
         (case side2 => exact (Kd.R_reads' HO508.out).2.1)
         rintro e w86 ⟨v510, rfl, ho0, hb⟩
         refine ⟨_, rfl, ?_⟩
         have n0_ := Aside0.mk (Kd.R_below (stR HO469.out) hb)
         have n1_ := Aside0.mk (Kd.R_elder' (stR HO472.out) (Kd.R_base ho0) hb)
         have n2_ := Aside0.mk (Kd.R_below (stR HO505.out) hb)
         have n3_ := Aside0.mk (Kd.R_below (stR HO514.out) hb)
         have n4_ := Aside0.mk (Kd.R_elder' (stR HO508.out) (Kd.R_base ho0) hb)
         have n5_ := Aside0.mk (Kd.R_lower (Kd.R_new' (Kd.R_new' ho0 (Kd.R_lt (stR HO472.out))) (Kd.R_lt (stR HO508.out))) (below_size (by repeat (first | (with_reducible first | exact HB.out | apply below_alloc | apply pw_below_drewN | apply below_drew1 | refine below_set ?_ GE466.out) | exact HB.out))))
         have n6_ := Aside0.mk (blk_below (g := gb466) (o := .cells #[.int .i64 a0_0, .int .i64 a0_1, .int .i64 a0_2, .int .i64 a0_3, .int .i64 a0_4, .int .i64 a0_5, .int .i64 a0_6, .bool a0_7, .slice A0_8 l0_8.length c0_8, .int .i64 a0_9, .int .i64 a0_10, .int .i64 a0_11, .slice A0_12 l0_12.length c0_12, .int .i64 a0_13, .int .i64 a0_14, .int .i64 a0_15, .slice A0_16 l0_16.length c0_16] 34 (0, 0)) (stK BK466.out) hb)
         have n7_ := Aside0.mk (below_step (by repeat (first | (with_reducible first | exact HB.out | apply below_alloc | apply pw_below_drewN | apply below_drew1 | refine below_set ?_ GE466.out) | exact HB.out)) hb)
         clear HO469
         clear HO472
         clear HO505
         clear HO514
         clear HO508
         clear BK466
         clear HB
         have HO469 := n0_
         have HO472 := n1_
         have HO505 := n2_
         have HO514 := n3_
         have HO508 := n4_
         have HO511 := n5_
         have BK466 := n6_
         have HB := n7_
         clear n0_ n1_ n2_ n3_ n4_ n5_ n6_ n7_
         (try clear hb)
         (try clear hb2)
         (try clear hk)
         (try clear hi)
         (try clear ho0)
         refine hK.out _ _ (bc17 BK466.out) (fun hHeld => ?_)
         clear hK K
         refine norm_ (a' := ?_) ?_ ?_
         rotate_left
         ·show Act.put _ (some 67) _ = _
          simp only [Act.put, List.setIfInBounds_toArray, List.set_cons_zero, List.set_cons_succ, i64_w, i32_w]
          rfl
         exact norm_ (by simp only [putAll, Act.put, List.setIfInBounds_toArray, List.set_cons_zero, List.set_cons_succ]) (hCont (.slice Ao83 y503.length co83, .slice Ao85 t506.length co85, v510, v513) _ ⟨hHeld, (by (with_reducible repeat (first|apply Kd.R_alloc | apply Kd.R_drewN | apply Kd.R_drew)); exact Kd.R_mono HO469.out (fun _ hk => ⟨hk.1.2, hk.2⟩)), (by (with_reducible repeat (first|apply Kd.R_alloc | apply Kd.R_drewN | apply Kd.R_drew)); exact Kd.R_mono HO472.out (fun _ hk => ⟨hk.1.2, hk.2⟩)), (by (with_reducible repeat (first|apply Kd.R_alloc | apply Kd.R_drewN | apply Kd.R_drew)); exact Kd.R_mono HO505.out (fun _ hk => ⟨hk.1.2, hk.2⟩)), (by (with_reducible repeat (first|apply Kd.R_alloc | apply Kd.R_drewN | apply Kd.R_drew)); exact Kd.R_mono HO508.out (fun _ hk => ⟨hk.1.2, hk.2⟩)), (by (with_reducible repeat (first|apply Kd.R_alloc | apply Kd.R_drewN | apply Kd.R_drew)); exact Kd.R_mono HO511.out (fun _ hk => ⟨hk.1.2, hk.2⟩)), (by (with_reducible repeat (first|apply Kd.R_alloc | apply Kd.R_drewN | apply Kd.R_drew)); exact Kd.R_mono HO514.out (fun _ hk => ⟨hk.1.2, hk.2⟩)), (stK BK466.out), (by repeat (first | (with_reducible first | exact HB.out | apply below_alloc | apply pw_below_drewN | apply below_drew1 | refine below_set ?_ GE466.out) | exact HB.out))⟩)
       ·skip
        refine Kd.R_lit_step (Kd.int .i64) _ 2 ?hg (N := 70) ?hd (xs := ([a0_4] : List Int)) (inner := [.int .i64 a0_4]) (ok := fun _ => True) (okp := fun _ => True) ?hr ?hp (fun _ hk => hk) trivial (Below.refl _ _) (Nat.le_refl _) (by simp) ?_; (case hd => rfl); (case hg => rfl); (case hr => first | (go_simp; done) | (go_simp; rfl)); (case hp => exact (Reps.one (show Kd.M (Kd.int .i64) _ _ _ a0_4 [.int .i64 a0_4] from rfl) (Reps.none _ _)))
        intro v513 w79 ho80 hb hg_ hnew_
        clear hg_ hnew_
        (first | rw [← Ny512.out] at ho80 | (simp only [Int.reduceToNat] at ho80; rw [← Ny512.out] at ho80))
        have n0_ := Aside0.mk (Kd.R_elder' (stR HO469.out) (Kd.R_base ho80) hb)
        have n1_ := Aside0.mk (Kd.R_below (stR HO472.out) hb)
        have n2_ := Aside0.mk (Kd.R_lower (Kd.R_new' ho80 (Kd.R_lt (stR HO469.out))) (below_size (by repeat (first | (with_reducible first | exact HB.out | apply below_alloc | apply pw_below_drewN | apply below_drew1 | refine below_set ?_ GE466.out) | exact HB.out))))
        have n3_ := Aside0.mk (blk_below (g := gb466) (o := .cells #[.int .i64 a0_0, .int .i64 a0_1, .int .i64 a0_2, .int .i64 a0_3, .int .i64 a0_4, .int .i64 a0_5, .int .i64 a0_6, .bool a0_7, .slice A0_8 l0_8.length c0_8, .int .i64 a0_9, .int .i64 a0_10, .int .i64 a0_11, .slice A0_12 l0_12.length c0_12, .int .i64 a0_13, .int .i64 a0_14, .int .i64 a0_15, .slice A0_16 l0_16.length c0_16] 34 (0, 0)) (stK BK466.out) hb)
        have n4_ := Aside0.mk (below_step (by repeat (first | (with_reducible first | exact HB.out | apply below_alloc | apply pw_below_drewN | apply below_drew1 | refine below_set ?_ GE466.out) | exact HB.out)) hb)
        clear HO469
        clear HO472
        clear BK466
        clear HB
        have HO469 := n0_
        have HO472 := n1_
        have HO514 := n2_
        have BK466 := n3_
        have HB := n4_
        clear n0_ n1_ n2_ n3_ n4_
        clear hb ho80
        refine hK.out _ _ (bc17 BK466.out) (fun hHeld => ?_)
        clear hK K
        refine norm_ (a' := ?_) ?_ ?_
        rotate_left
        ·show Act.put _ (some 70) _ = _
         simp only [Act.put, List.setIfInBounds_toArray, List.set_cons_zero, List.set_cons_succ, i64_w, i32_w]
         rfl
        refine one_ (i := 3) (N := some 63) #[true, true, true, true, false, true, true, false, true, true, true, false, false] rfl rfl (one_of HT_.out (by kernel_rfl)) (by decide) (fun K hK => ?_)
        refine Kd.R_lit_step (Kd.int .i64) _ 2 ?hg (N := 63) ?hd (xs := ([a0_3] : List Int)) (inner := [.int .i64 a0_3]) (ok := fun _ => True) (okp := fun _ => True) ?hr ?hp (fun _ hk => hk) trivial (Below.refl _ _) (Nat.le_refl _) (by simp) ?_; (case hd => rfl); (case hg => rfl); (case hr => first | (go_simp; done) | (go_simp; rfl)); (case hp => exact (Reps.one (show Kd.M (Kd.int .i64) _ _ _ a0_3 [.int .i64 a0_3] from rfl) (Reps.none _ _)))
        intro v504 w81 ho82 hb hg_ hnew_
        clear hg_ hnew_
        (first | rw [← Ny503.out] at ho82 | (simp only [Int.reduceToNat] at ho82; rw [← Ny503.out] at ho82))
        have n0_ := Aside0.mk (Kd.R_elder' (stR HO469.out) (Kd.R_base ho82) hb)
        have n1_ := Aside0.mk (Kd.R_below (stR HO472.out) hb)
        have n2_ := Aside0.mk (Kd.R_elder' (stR HO514.out) (Kd.R_base ho82) hb)
        have n3_ := Aside0.mk (Kd.R_lower (Kd.R_new' (Kd.R_new' ho82 (Kd.R_lt (stR HO469.out))) (Kd.R_lt (stR HO514.out))) (below_size (by repeat (first | (with_reducible first | exact HB.out | apply below_alloc | apply pw_below_drewN | apply below_drew1 | refine below_set ?_ GE466.out) | exact HB.out))))
        have n4_ := Aside0.mk (blk_below (g := gb466) (o := .cells #[.int .i64 a0_0, .int .i64 a0_1, .int .i64 a0_2, .int .i64 a0_3, .int .i64 a0_4, .int .i64 a0_5, .int .i64 a0_6, .bool a0_7, .slice A0_8 l0_8.length c0_8, .int .i64 a0_9, .int .i64 a0_10, .int .i64 a0_11, .slice A0_12 l0_12.length c0_12, .int .i64 a0_13, .int .i64 a0_14, .int .i64 a0_15, .slice A0_16 l0_16.length c0_16] 34 (0, 0)) (stK BK466.out) hb)
        have n5_ := Aside0.mk (below_step (by repeat (first | (with_reducible first | exact HB.out | apply below_alloc | apply pw_below_drewN | apply below_drew1 | refine below_set ?_ GE466.out) | exact HB.out)) hb)
        clear HO469
        clear HO472
        clear HO514
        clear BK466
        clear HB
        have HO469 := n0_
        have HO472 := n1_
        have HO514 := n2_
        have HO505 := n3_
        have BK466 := n4_
        have HB := n5_
        clear n0_ n1_ n2_ n3_ n4_ n5_
        clear hb ho82
        obtain ⟨Ao83, co83, eo83⟩ := Kd.R_slice HO505.out
        (first | subst eo83 | (injection eo83 with f1_ f2_ f3_; have f4_ := f1_.symm; have f5_ := f3_.symm; clear f1_ f2_ f3_; subst f4_; subst f5_))
        refine hK.out _ _ (bc17 BK466.out) (fun hHeld => ?_)
        clear hK K
        refine norm_ (a' := ?_) ?_ ?_
        rotate_left
        ·show Act.put _ (some 63) _ = _
         simp only [Act.put, List.setIfInBounds_toArray, List.set_cons_zero, List.set_cons_succ, i64_w, i32_w]
         rfl
        refine one_ (i := 4) (N := some 64) #[true, true, true, true, true, true, true, false, true, true, true, false, false] rfl rfl (one_of HT_.out (by kernel_rfl)) (by decide) (fun K hK => ?_)
        refine goes_ Tryz.func97 (by kernel_rfl) rfl #[.slice Ao77 t470.length co77, .slice Ao83 y503.length co83] (by rfl) rfl rfl (by (try simp only [List.map_toArray, List.map_cons, List.map_nil]); first | done | rfl | (simp only [List.length_drop, List.length_take]; rfl)) ?_
        with_reducible refine (trivetref04_num.calls k _ _ t470 _ _ y503 t506 _ ?side1 ?side2 ?side3 ?side4 A67.out).mono ?_
        (case side1 => exact stC ((Kd.R_reads' HO472.out).2.2))
        (case side2 => exact (Kd.R_reads' HO472.out).2.1)
        (case side3 => exact stC ((Kd.R_reads' HO505.out).2.2))
        (case side4 => exact (Kd.R_reads' HO505.out).2.1)
        rintro e w84 ⟨v507, rfl, ho0, hb⟩
        refine ⟨_, rfl, ?_⟩
        have n0_ := Aside0.mk (Kd.R_below (stR HO469.out) hb)
        have n1_ := Aside0.mk (Kd.R_elder' (stR HO472.out) (Kd.R_base ho0) hb)
        have n2_ := Aside0.mk (Kd.R_below (stR HO514.out) hb)
        have n3_ := Aside0.mk (Kd.R_below (stR HO505.out) hb)
        have n4_ := Aside0.mk (Kd.R_lower (Kd.R_new' ho0 (Kd.R_lt (stR HO472.out))) (below_size (by repeat (first | (with_reducible first | exact HB.out | apply below_alloc | apply pw_below_drewN | apply below_drew1 | refine below_set ?_ GE466.out) | exact HB.out))))
        have n5_ := Aside0.mk (blk_below (g := gb466) (o := .cells #[.int .i64 a0_0, .int .i64 a0_1, .int .i64 a0_2, .int .i64 a0_3, .int .i64 a0_4, .int .i64 a0_5, .int .i64 a0_6, .bool a0_7, .slice A0_8 l0_8.length c0_8, .int .i64 a0_9, .int .i64 a0_10, .int .i64 a0_11, .slice A0_12 l0_12.length c0_12, .int .i64 a0_13, .int .i64 a0_14, .int .i64 a0_15, .slice A0_16 l0_16.length c0_16] 34 (0, 0)) (stK BK466.out) hb)
        have n6_ := Aside0.mk (below_step (by repeat (first | (with_reducible first | exact HB.out | apply below_alloc | apply pw_below_drewN | apply below_drew1 | refine below_set ?_ GE466.out) | exact HB.out)) hb)
        clear HO469
        clear HO472
        clear HO514
        clear HO505
        clear BK466
        clear HB
        have HO469 := n0_
        have HO472 := n1_
        have HO514 := n2_
        have HO505 := n3_
        have HO508 := n4_
        have BK466 := n5_
        have HB := n6_
        clear n0_ n1_ n2_ n3_ n4_ n5_ n6_
        (try clear hb)
        (try clear hb2)
        (try clear hk)
        (try clear hi)
        (try clear ho0)
        obtain ⟨Ao85, co85, eo85⟩ := Kd.R_slice HO508.out
        (first | subst eo85 | (injection eo85 with f1_ f2_ f3_; have f4_ := f1_.symm; have f5_ := f3_.symm; clear f1_ f2_ f3_; subst f4_; subst f5_))
        refine hK.out _ _ (bc17 BK466.out) (fun hHeld => ?_)
        clear hK K
        refine norm_ (a' := ?_) ?_ ?_
        rotate_left
        ·show Act.put _ (some 64) _ = _
         simp only [Act.put, List.setIfInBounds_toArray, List.set_cons_zero, List.set_cons_succ, i64_w, i32_w]
         rfl
        refine one_ (i := 7) (N := some 67) #[true, true, true, true, true, true, true, true, true, true, true, false, false] rfl rfl (one_of HT_.out (by kernel_rfl)) (by decide) (fun K hK => ?_)
        refine goes_ Tryz.func104 (by kernel_rfl) rfl #[.slice Ao85 t506.length co85, .bool a0_7] (by rfl) rfl rfl (by (try simp only [List.map_toArray, List.map_cons, List.map_nil]); first | done | rfl | (simp only [List.length_drop, List.length_take]; rfl)) ?_
        with_reducible refine (trivetref04_yes.calls k _ _ t506 a0_7 t509 _ ?side1 ?side2 A68.out).mono ?_
        (case side1 => exact stC ((Kd.R_reads' HO508.out).2.2))
        (case side2 => exact (Kd.R_reads' HO508.out).2.1)
        rintro e w86 ⟨v510, rfl, ho0, hb⟩
        refine ⟨_, rfl, ?_⟩
        have n0_ := Aside0.mk (Kd.R_below (stR HO469.out) hb)
        have n1_ := Aside0.mk (Kd.R_elder' (stR HO472.out) (Kd.R_base ho0) hb)
        have n2_ := Aside0.mk (Kd.R_below (stR HO514.out) hb)
        have n3_ := Aside0.mk (Kd.R_below (stR HO505.out) hb)
        have n4_ := Aside0.mk (Kd.R_elder' (stR HO508.out) (Kd.R_base ho0) hb)
        have n5_ := Aside0.mk (Kd.R_lower (Kd.R_new' (Kd.R_new' ho0 (Kd.R_lt (stR HO472.out))) (Kd.R_lt (stR HO508.out))) (below_size (by repeat (first | (with_reducible first | exact HB.out | apply below_alloc | apply pw_below_drewN | apply below_drew1 | refine below_set ?_ GE466.out) | exact HB.out))))
        have n6_ := Aside0.mk (blk_below (g := gb466) (o := .cells #[.int .i64 a0_0, .int .i64 a0_1, .int .i64 a0_2, .int .i64 a0_3, .int .i64 a0_4, .int .i64 a0_5, .int .i64 a0_6, .bool a0_7, .slice A0_8 l0_8.length c0_8, .int .i64 a0_9, .int .i64 a0_10, .int .i64 a0_11, .slice A0_12 l0_12.length c0_12, .int .i64 a0_13, .int .i64 a0_14, .int .i64 a0_15, .slice A0_16 l0_16.length c0_16] 34 (0, 0)) (stK BK466.out) hb)
        have n7_ := Aside0.mk (below_step (by repeat (first | (with_reducible first | exact HB.out | apply below_alloc | apply pw_below_drewN | apply below_drew1 | refine below_set ?_ GE466.out) | exact HB.out)) hb)
        clear HO469
        clear HO472
        clear HO514
        clear HO505
        clear HO508
        clear BK466
        clear HB
        have HO469 := n0_
        have HO472 := n1_
        have HO514 := n2_
        have HO505 := n3_
        have HO508 := n4_
        have HO511 := n5_
        have BK466 := n6_
        have HB := n7_
        clear n0_ n1_ n2_ n3_ n4_ n5_ n6_ n7_
        (try clear hb)
        (try clear hb2)
        (try clear hk)
        (try clear hi)
        (try clear ho0)
        refine hK.out _ _ (bc17 BK466.out) (fun hHeld => ?_)
        clear hK K
        refine norm_ (a' := ?_) ?_ ?_
        rotate_left
        ·show Act.put _ (some 67) _ = _
         simp only [Act.put, List.setIfInBounds_toArray, List.set_cons_zero, List.set_cons_succ, i64_w, i32_w]
         rfl
        exact norm_ (by simp only [putAll, Act.put, List.setIfInBounds_toArray, List.set_cons_zero, List.set_cons_succ]) (hCont (.slice Ao83 y503.length co83, .slice Ao85 t506.length co85, v510, v513) _ ⟨hHeld, (by (with_reducible repeat (first|apply Kd.R_alloc | apply Kd.R_drewN | apply Kd.R_drew)); exact Kd.R_mono HO469.out (fun _ hk => ⟨hk.2, hk.1.2⟩)), (by (with_reducible repeat (first|apply Kd.R_alloc | apply Kd.R_drewN | apply Kd.R_drew)); exact Kd.R_mono HO472.out (fun _ hk => ⟨hk.1.2, hk.2⟩)), (by (with_reducible repeat (first|apply Kd.R_alloc | apply Kd.R_drewN | apply Kd.R_drew)); exact Kd.R_mono HO505.out (fun _ hk => ⟨hk.1.2, hk.2⟩)), (by (with_reducible repeat (first|apply Kd.R_alloc | apply Kd.R_drewN | apply Kd.R_drew)); exact Kd.R_mono HO508.out (fun _ hk => ⟨hk.1.2, hk.2⟩)), (by (with_reducible repeat (first|apply Kd.R_alloc | apply Kd.R_drewN | apply Kd.R_drew)); exact Kd.R_mono HO511.out (fun _ hk => ⟨hk.1.2, hk.2⟩)), (by (with_reducible repeat (first|apply Kd.R_alloc | apply Kd.R_drewN | apply Kd.R_drew)); exact Kd.R_mono HO514.out (fun _ hk => ⟨hk.1.2, hk.2⟩)), (stK BK466.out), (by repeat (first | (with_reducible first | exact HB.out | apply below_alloc | apply pw_below_drewN | apply below_drew1 | refine below_set ?_ GE466.out) | exact HB.out))⟩)
      rintro ⟨v504, v507, v510, v513⟩ w87 ⟨hS_, h0_, h1_, h2_, h3_, h4_, h5_, h6_, h7_⟩
      have n0_ : Aside0 (Kd.R (Kd.int .i64) 2 w87 w.heap.size (fun k_ => some k_ ≠ (v504 : Value).ownBlock ∧ some k_ ≠ (v513 : Value).ownBlock) (.slice Ao74 y467.length co74) y467) := ⟨h0_⟩
      have n1_ : Aside0 (Kd.R (Kd.int .u8) 5 w87 w.heap.size (fun k_ => some k_ ≠ (v507 : Value).ownBlock ∧ some k_ ≠ (v510 : Value).ownBlock) (.slice Ao77 t470.length co77) t470) := ⟨h1_⟩
      have n2_ : Aside0 (Kd.R (Kd.int .i64) 2 w87 w.heap.size (fun k_ => some k_ ≠ (.slice Ao74 y467.length co74 : Value).ownBlock ∧ some k_ ≠ (v513 : Value).ownBlock) v504 y503) := ⟨h2_⟩
      have n3_ : Aside0 (Kd.R (Kd.int .u8) 5 w87 w.heap.size (fun k_ => some k_ ≠ (.slice Ao77 t470.length co77 : Value).ownBlock ∧ some k_ ≠ (v510 : Value).ownBlock) v507 t506) := ⟨h3_⟩
      have n4_ : Aside0 (Kd.R (Kd.int .u8) 5 w87 w.heap.size (fun k_ => some k_ ≠ (.slice Ao77 t470.length co77 : Value).ownBlock ∧ some k_ ≠ (v507 : Value).ownBlock) v510 t509) := ⟨h4_⟩
      have n5_ : Aside0 (Kd.R (Kd.int .i64) 2 w87 w.heap.size (fun k_ => some k_ ≠ (.slice Ao74 y467.length co74 : Value).ownBlock ∧ some k_ ≠ (v504 : Value).ownBlock) v513 y512) := ⟨h5_⟩
      have n6_ : Aside0 (w87.heap[gb466]? = some (.cells #[.int .i64 a0_0, .int .i64 a0_1, .int .i64 a0_2, .int .i64 a0_3, .int .i64 a0_4, .int .i64 a0_5, .int .i64 a0_6, .bool a0_7, .slice A0_8 l0_8.length c0_8, .int .i64 a0_9, .int .i64 a0_10, .int .i64 a0_11, .slice A0_12 l0_12.length c0_12, .int .i64 a0_13, .int .i64 a0_14, .int .i64 a0_15, .slice A0_16 l0_16.length c0_16] 34 (0, 0))) := ⟨h6_⟩
      have n7_ : Aside0 (Below w.heap.size w w87) := ⟨h7_⟩
      clear HO469
      clear HO472
      clear BK466
      clear HB
      clear h0_ h1_ h2_ h3_ h4_ h5_ h6_ h7_
      have HO469 := n0_
      have HO472 := n1_
      have HO505 := n2_
      have HO508 := n3_
      have HO511 := n4_
      have HO514 := n5_
      have BK466 := n6_
      have HB := n7_
      clear n0_ n1_ n2_ n3_ n4_ n5_ n6_ n7_
      have hHeld : w87.cell? ⟨gb466, 0, none⟩ = some (.int .i64 a0_0) ∧ w87.cell? ⟨gb466, 1, none⟩ = some (.int .i64 a0_1) ∧ w87.cell? ⟨gb466, 2, none⟩ = some (.int .i64 a0_2) ∧ w87.cell? ⟨gb466, 3, none⟩ = some (.int .i64 a0_3) ∧ w87.cell? ⟨gb466, 4, none⟩ = some (.int .i64 a0_4) ∧ w87.cell? ⟨gb466, 5, none⟩ = some (.int .i64 a0_5) ∧ w87.cell? ⟨gb466, 6, none⟩ = some (.int .i64 a0_6) ∧ w87.cell? ⟨gb466, 7, none⟩ = some (.bool a0_7) ∧ w87.cell? ⟨gb466, 8, none⟩ = some (.slice A0_8 l0_8.length c0_8) ∧ w87.cell? ⟨gb466, 9, none⟩ = some (.int .i64 a0_9) ∧ w87.cell? ⟨gb466, 10, none⟩ = some (.int .i64 a0_10) ∧ w87.cell? ⟨gb466, 11, none⟩ = some (.int .i64 a0_11) ∧ w87.cell? ⟨gb466, 12, none⟩ = some (.slice A0_12 l0_12.length c0_12) ∧ w87.cell? ⟨gb466, 13, none⟩ = some (.int .i64 a0_13) ∧ w87.cell? ⟨gb466, 14, none⟩ = some (.int .i64 a0_14) ∧ w87.cell? ⟨gb466, 15, none⟩ = some (.int .i64 a0_15) ∧ w87.cell? ⟨gb466, 16, none⟩ = some (.slice A0_16 l0_16.length c0_16) := hS_
      obtain ⟨Ao88, co88, eo88⟩ := Kd.R_slice HO511.out
      (first | subst eo88 | (injection eo88 with f1_ f2_ f3_; have f4_ := f1_.symm; have f5_ := f3_.symm; clear f1_ f2_ f3_; subst f4_; subst f5_))
      obtain ⟨Ao89, co89, eo89⟩ := Kd.R_slice HO514.out
      (first | subst eo89 | (injection eo89 with f1_ f2_ f3_; have f4_ := f1_.symm; have f5_ := f3_.symm; clear f1_ f2_ f3_; subst f4_; subst f5_))
      refine norm_ (a' := ?_) ?_ ?_
      rotate_left
      ·simp only [putAll, Act.put, List.setIfInBounds_toArray, List.set_cons_zero, List.set_cons_succ]
       rfl
      refine one_ (i := 11) (N := some 71) #[true, true, true, true, true, true, true, true, true, true, true, true, false] rfl rfl (one_of HT_.out (by kernel_rfl)) (by decide) (fun K hK => ?_)
      refine goes_ Tryz.func97 (by kernel_rfl) rfl #[.slice Ao88 t509.length co88, .slice Ao89 y512.length co89] (by rfl) rfl rfl (by (try simp only [List.map_toArray, List.map_cons, List.map_nil]); first | done | rfl | (simp only [List.length_drop, List.length_take]; rfl)) ?_
      with_reducible refine (trivetref04_num.calls k _ _ t509 _ _ y512 t515 _ ?side1 ?side2 ?side3 ?side4 A69.out).mono ?_
      (case side1 => exact stC ((Kd.R_reads' HO511.out).2.2))
      (case side2 => exact (Kd.R_reads' HO511.out).2.1)
      (case side3 => exact stC ((Kd.R_reads' HO514.out).2.2))
      (case side4 => exact (Kd.R_reads' HO514.out).2.1)
      rintro e w90 ⟨v516, rfl, ho0, hb⟩
      refine ⟨_, rfl, ?_⟩
      have n0_ := Aside0.mk (Kd.R_below (stR HO469.out) hb)
      have n1_ := Aside0.mk (Kd.R_elder' (stR HO472.out) (Kd.R_base ho0) hb)
      have n2_ := Aside0.mk (Kd.R_below (stR HO505.out) hb)
      have n3_ := Aside0.mk (Kd.R_elder' (stR HO508.out) (Kd.R_base ho0) hb)
      have n4_ := Aside0.mk (Kd.R_elder' (stR HO511.out) (Kd.R_base ho0) hb)
      have n5_ := Aside0.mk (Kd.R_below (stR HO514.out) hb)
      have n6_ := Aside0.mk (Kd.R_lower (Kd.R_new' (Kd.R_new' (Kd.R_new' ho0 (Kd.R_lt (stR HO472.out))) (Kd.R_lt (stR HO508.out))) (Kd.R_lt (stR HO511.out))) (below_size (by repeat (first | (with_reducible first | exact HB.out | apply below_alloc | apply pw_below_drewN | apply below_drew1 | refine below_set ?_ GE466.out) | exact HB.out))))
      have n7_ := Aside0.mk (blk_below (g := gb466) (o := .cells #[.int .i64 a0_0, .int .i64 a0_1, .int .i64 a0_2, .int .i64 a0_3, .int .i64 a0_4, .int .i64 a0_5, .int .i64 a0_6, .bool a0_7, .slice A0_8 l0_8.length c0_8, .int .i64 a0_9, .int .i64 a0_10, .int .i64 a0_11, .slice A0_12 l0_12.length c0_12, .int .i64 a0_13, .int .i64 a0_14, .int .i64 a0_15, .slice A0_16 l0_16.length c0_16] 34 (0, 0)) (stK BK466.out) hb)
      have n8_ := Aside0.mk (below_step (by repeat (first | (with_reducible first | exact HB.out | apply below_alloc | apply pw_below_drewN | apply below_drew1 | refine below_set ?_ GE466.out) | exact HB.out)) hb)
      clear HO469
      clear HO472
      clear HO505
      clear HO508
      clear HO511
      clear HO514
      clear BK466
      clear HB
      have HO469 := n0_
      have HO472 := n1_
      have HO505 := n2_
      have HO508 := n3_
      have HO511 := n4_
      have HO514 := n5_
      have HO517 := n6_
      have BK466 := n7_
      have HB := n8_
      clear n0_ n1_ n2_ n3_ n4_ n5_ n6_ n7_ n8_
      (try clear hb)
      (try clear hb2)
      (try clear hk)
      (try clear hi)
      (try clear ho0)
      refine hK.out _ _ (bc17 BK466.out) (fun hHeld => ?_)
      clear hK K
      refine norm_ (a' := ?_) ?_ ?_
      rotate_left
      ·show Act.put _ (some 71) _ = _
       simp only [Act.put, List.setIfInBounds_toArray, List.set_cons_zero, List.set_cons_succ, i64_w, i32_w]
       rfl
      refine pure_ (i := 12) (N := some 2) (v := ?_) (a' := ?_) #[true, true, true, true, true, true, true, true, true, true, true, true, true] rfl rfl (any_of HT_.out (by kernel_rfl)) (fun _ _ _ h => h) (Or.inl ⟨by rfl, ?_⟩) ?_ ?_
      rotate_left
      ·intro w'
       go_simp
       with_reducible rfl
      rotate_left
      ·simp only [Act.put, List.setIfInBounds_toArray, List.set_cons_zero, List.set_cons_succ, i64_w, i32_w]
       rfl
      refine done_ (done_of HT_.out (by kernel_rfl)) ?_
      try go_wp2
      go_ret
      exact ⟨_, by first | rfl | (simp [errW_none, errW_some] <;> rfl) | (simp [*, errW_none, errW_some] <;> rfl), by (with_reducible repeat (first|apply Kd.R_alloc | apply Kd.R_drewN | apply Kd.R_drew)); exact Kd.R_mono HO517.out (fun _ hk => trivial), by repeat (first | (with_reducible first | exact HB.out | apply below_alloc | apply pw_below_drewN | apply below_drew1 | refine below_set ?_ GE466.out) | exact HB.out)⟩
     ·rw [if_neg c66] at H
      have c66b0 : (a0_0 == 4) = false := beq_eq_false_iff_ne.mpr c66
      have c66b1 : (a0_0 != 4) = true := bne_iff_ne.mpr c66
      obtain ⟨y518, hy518⟩ : ∃ y_ : List Int, y_ = (([a0_3, a0_4, a0_5] : List Int)) := ⟨_, rfl⟩
      replace H : ((trivetref04_num.f k t470 y518).bind fun t521 => ((trivetref04_PartForm.f k a0_13 a0_14 a0_15 l0_16).bind fun t524 => (if t521.length + t524.length < 140737488355328 then (some (t521 ++ t524)) else (none)))) = some r := by first | (rw [hy518]; with_reducible exact H) | (have H2_ := (Option.bind_some _ _).symm.trans H; rw [hy518]; with_reducible exact H2_) | (have H2_ := (Option.bind_some _ _).symm.trans H; with_reducible exact H2_) | with_reducible exact H | (rw [hy518]; exact H) | exact H
      have Ny518 := Aside0.mk hy518
      clear hy518
      replace H := Option.bind_eq_some_iff.mp H
      obtain ⟨t521, A910, H⟩ := H
      replace H : ((trivetref04_PartForm.f k a0_13 a0_14 a0_15 l0_16).bind fun t524 => (if t521.length + t524.length < 140737488355328 then (some (t521 ++ t524)) else (none))) = some r := H
      have A91 := Aside0.mk A910
      clear A910
      replace H := Option.bind_eq_some_iff.mp H
      obtain ⟨t524, A920, H⟩ := H
      replace H : (if t521.length + t524.length < 140737488355328 then (some (t521 ++ t524)) else (none)) = some r := H
      have A92 := Aside0.mk A920
      clear A920
      by_cases c93 : t521.length + t524.length < 140737488355328
      ·rw [if_pos c93] at H
       have LMc93 := Aside0.mk c93
       clear c93
       obtain ⟨y527, hy527⟩ : ∃ y_ : List Int, y_ = (t521 ++ t524) := ⟨_, rfl⟩
       replace H : (some y527) = some r := by first | (rw [hy527]; with_reducible exact H) | (have H2_ := (Option.bind_some _ _).symm.trans H; rw [hy527]; with_reducible exact H2_) | (have H2_ := (Option.bind_some _ _).symm.trans H; with_reducible exact H2_) | with_reducible exact H | (rw [hy527]; exact H) | exact H
       have Ny527 := Aside0.mk hy527
       clear hy527
       obtain rfl := Option.some.inj H
       go_enter Tryz.func52, Tryz.ntmps52
       try go_wp2_with (first | ((with_reducible refine gate_dst (N := 1) rfl ?_); refine box_event ?hg (N := 1) ?hd (cs := #[.int .i64 a0_0, .int .i64 a0_1, .int .i64 a0_2, .int .i64 a0_3, .int .i64 a0_4, .int .i64 a0_5, .int .i64 a0_6, .bool a0_7, .slice A0_8 l0_8.length c0_8, .int .i64 a0_9, .int .i64 a0_10, .int .i64 a0_11, .slice A0_12 l0_12.length c0_12, .int .i64 a0_13, .int .i64 a0_14, .int .i64 a0_15, .slice A0_16 l0_16.length c0_16]) (t := 34) ?hr ?_; (case hd => rfl); (case hg => rfl); (case hr => first | (go_simp; done) | (go_simp; rfl)); intro gb466 hg w94 hbox hb; have n0_ := Aside0.mk (below_step (stB HB.out) hb); have n1_ := Aside0.mk (hbox); have n2_ := Aside0.mk ((by rw [hg]; exact (below_size (stB HB.out)) : w.heap.size ≤ gb466)); have n3_ := Aside0.mk ((by rw [hg]; exact (below_size (stB HB.out)) : w.heap.size ≤ gb466)); clear HB; have HB := n0_; have BK466 := n1_; have GW466 := n2_; have GE466 := n3_; clear n0_ n1_ n2_ n3_; clear hb hbox hg; obtain ⟨hcz95_0, hcz95_1, hcz95_2, hcz95_3, hcz95_4, hcz95_5, hcz95_6, hcz95_7, hcz95_8, hcz95_9, hcz95_10, hcz95_11, hcz95_12, hcz95_13, hcz95_14, hcz95_15, hcz95_16⟩ := bc17 BK466.out; obtain ⟨hfz95_0, hfz95_1, hfz95_2, hfz95_3, hfz95_4, hfz95_5, hfz95_6, hfz95_7, hfz95_8, hfz95_9, hfz95_10, hfz95_11, hfz95_12, hfz95_13, hfz95_14, hfz95_15, hfz95_16⟩ := bf17 BK466.out) | ((with_reducible refine gate_dst (N := 10) rfl ?_); refine Kd.R_lit (Kd.int .i64) _ 2 ?hg (N := 10) ?hd (xs := ([a0_0, a0_1, a0_2] : List Int)) (inner := [.int .i64 a0_0, .int .i64 a0_1, .int .i64 a0_2]) (ok := fun _ => True) (okp := fun _ => True) ?hr ?hp (fun _ hk => hk) trivial (Below.refl _ _) (Nat.le_refl _) (by simp) ?_; (case hd => rfl); (case hg => rfl); (case hr => first | (go_simp; done) | (go_simp; rfl)); (case hp => exact (Reps.one (show Kd.M (Kd.int .i64) _ _ _ a0_0 [.int .i64 a0_0] from rfl) (Reps.one (show Kd.M (Kd.int .i64) _ _ _ a0_1 [.int .i64 a0_1] from rfl) (Reps.one (show Kd.M (Kd.int .i64) _ _ _ a0_2 [.int .i64 a0_2] from rfl) (Reps.none _ _))))); intro v468 w96 ho97 hb hg_ hnew_; clear hg_ hnew_; (first | rw [← Ny467.out] at ho97 | (simp only [Int.reduceToNat] at ho97; rw [← Ny467.out] at ho97)); have n0_ := Aside0.mk (Kd.R_lower ho97 (below_size (by repeat (first | (with_reducible first | exact HB.out | apply below_alloc | apply pw_below_drewN | apply below_drew1 | refine below_set ?_ GE466.out) | exact HB.out)))); have n1_ := Aside0.mk (blk_below (g := gb466) (o := .cells #[.int .i64 a0_0, .int .i64 a0_1, .int .i64 a0_2, .int .i64 a0_3, .int .i64 a0_4, .int .i64 a0_5, .int .i64 a0_6, .bool a0_7, .slice A0_8 l0_8.length c0_8, .int .i64 a0_9, .int .i64 a0_10, .int .i64 a0_11, .slice A0_12 l0_12.length c0_12, .int .i64 a0_13, .int .i64 a0_14, .int .i64 a0_15, .slice A0_16 l0_16.length c0_16] 34 (0, 0)) (stK BK466.out) hb); have n2_ := Aside0.mk (below_step (by repeat (first | (with_reducible first | exact HB.out | apply below_alloc | apply pw_below_drewN | apply below_drew1 | refine below_set ?_ GE466.out) | exact HB.out)) hb); clear BK466; clear HB; have HO469 := n0_; have BK466 := n1_; have HB := n2_; clear n0_ n1_ n2_; clear hb ho97; obtain ⟨Ao98, co98, eo98⟩ := Kd.R_slice HO469.out; subst eo98) | ((with_reducible refine gate_callee (f := 97) rfl ?_); refine goesL_ (some 11) rfl rfl Tryz.func97 (by kernel_rfl) rfl #[.slice none 0 0, .slice Ao98 y467.length co98] rfl (by (try simp only [List.map_toArray, List.map_cons, List.map_nil]); first | done | rfl | (simp only [List.length_drop, List.length_take]; rfl)) ?_; (refine (trivetref04_num.calls k _ _ ([] : List Int) _ _ y467 t470 _ ?side1 ?side2 ?side3 ?side4 A2.out).mono ?_); (case side1 => exact Kd.C_nil _ _); (case side2 => exact Nat.le_refl _); (case side3 => exact stC ((Kd.R_reads' HO469.out).2.2)); (case side4 => exact (Kd.R_reads' HO469.out).2.1); rintro e w99 ⟨v471, rfl, ho0, hb⟩; refine ⟨_, rfl, ?_⟩; have n0_ := Aside0.mk (Kd.R_below (stR HO469.out) hb); have n1_ := Aside0.mk (Kd.R_lower ho0 (below_size (by repeat (first | (with_reducible first | exact HB.out | apply below_alloc | apply pw_below_drewN | apply below_drew1 | refine below_set ?_ GE466.out) | exact HB.out)))); have n2_ := Aside0.mk (blk_below (g := gb466) (o := .cells #[.int .i64 a0_0, .int .i64 a0_1, .int .i64 a0_2, .int .i64 a0_3, .int .i64 a0_4, .int .i64 a0_5, .int .i64 a0_6, .bool a0_7, .slice A0_8 l0_8.length c0_8, .int .i64 a0_9, .int .i64 a0_10, .int .i64 a0_11, .slice A0_12 l0_12.length c0_12, .int .i64 a0_13, .int .i64 a0_14, .int .i64 a0_15, .slice A0_16 l0_16.length c0_16] 34 (0, 0)) (stK BK466.out) hb); have n3_ := Aside0.mk (below_step (by repeat (first | (with_reducible first | exact HB.out | apply below_alloc | apply pw_below_drewN | apply below_drew1 | refine below_set ?_ GE466.out) | exact HB.out)) hb); clear HO469; clear BK466; clear HB; have HO469 := n0_; have HO472 := n1_; have BK466 := n2_; have HB := n3_; clear n0_ n1_ n2_ n3_; (try clear hb); (try clear hb2); (try clear hk); (try clear hi); (try clear ho0); obtain ⟨hcz100_0, hcz100_1, hcz100_2, hcz100_3, hcz100_4, hcz100_5, hcz100_6, hcz100_7, hcz100_8, hcz100_9, hcz100_10, hcz100_11, hcz100_12, hcz100_13, hcz100_14, hcz100_15, hcz100_16⟩ := bc17 BK466.out; obtain ⟨hfz100_0, hfz100_1, hfz100_2, hfz100_3, hfz100_4, hfz100_5, hfz100_6, hfz100_7, hfz100_8, hfz100_9, hfz100_10, hfz100_11, hfz100_12, hfz100_13, hfz100_14, hfz100_15, hfz100_16⟩ := bf17 BK466.out))
       have n0_ := Aside0.mk (Kd.R_drew HO469.out)
       have n1_ := Aside0.mk (Kd.R_drew HO472.out)
       have n2_ := Aside0.mk (blk_drew BK466.out)
       have n3_ := Aside0.mk (below_drew1 HB.out)
       clear HO469
       clear HO472
       clear BK466
       clear HB
       have HO469 := n0_
       have HO472 := n1_
       have BK466 := n2_
       have HB := n3_
       clear n0_ n1_ n2_ n3_
       refine start_ (n := 14) (S := fun w' => w'.cell? ⟨gb466, 0, none⟩ = some (.int .i64 a0_0) ∧ w'.cell? ⟨gb466, 1, none⟩ = some (.int .i64 a0_1) ∧ w'.cell? ⟨gb466, 2, none⟩ = some (.int .i64 a0_2) ∧ w'.cell? ⟨gb466, 3, none⟩ = some (.int .i64 a0_3) ∧ w'.cell? ⟨gb466, 4, none⟩ = some (.int .i64 a0_4) ∧ w'.cell? ⟨gb466, 5, none⟩ = some (.int .i64 a0_5) ∧ w'.cell? ⟨gb466, 6, none⟩ = some (.int .i64 a0_6) ∧ w'.cell? ⟨gb466, 7, none⟩ = some (.bool a0_7) ∧ w'.cell? ⟨gb466, 8, none⟩ = some (.slice A0_8 l0_8.length c0_8) ∧ w'.cell? ⟨gb466, 9, none⟩ = some (.int .i64 a0_9) ∧ w'.cell? ⟨gb466, 10, none⟩ = some (.int .i64 a0_10) ∧ w'.cell? ⟨gb466, 11, none⟩ = some (.int .i64 a0_11) ∧ w'.cell? ⟨gb466, 12, none⟩ = some (.slice A0_12 l0_12.length c0_12) ∧ w'.cell? ⟨gb466, 13, none⟩ = some (.int .i64 a0_13) ∧ w'.cell? ⟨gb466, 14, none⟩ = some (.int .i64 a0_14) ∧ w'.cell? ⟨gb466, 15, none⟩ = some (.int .i64 a0_15) ∧ w'.cell? ⟨gb466, 16, none⟩ = some (.slice A0_16 l0_16.length c0_16)) (ds := []) #[false, false, false, false, false, false, false, false, false, false, false, false, false, false] (by kernel_rfl) rfl rfl (bc17 BK466.out) (fun hHeld => ?_); refine with_tabW trivetref04_MsgForm.tab13 trivetref04_MsgForm.bits13 (fun HT_ HW_ => ?_)
       generalize w99.drew = w101 at HO469 HO472 BK466 HB hHeld ⊢
       refine pure_ (i := 0) (N := some 72) (v := ?_) (a' := ?_) #[true, false, false, false, false, false, false, false, false, false, false, false, false, false] rfl rfl (any_of HT_.out (by kernel_rfl)) (fun _ _ _ h => h) (Or.inl ⟨by rfl, ?_⟩) ?_ ?_
       rotate_left
       ·intro w'
        go_simp
        with_reducible rfl
       rotate_left
       ·simp only [Act.put, List.setIfInBounds_toArray, List.set_cons_zero, List.set_cons_succ, i64_w, i32_w]
        rfl
       refine pure_ (i := 1) (N := some 73) (v := ?_) (a' := ?_) #[true, true, false, false, false, false, false, false, false, false, false, false, false, false] rfl rfl (any_of HT_.out (by kernel_rfl)) (fun _ _ _ h => h) (Or.inl ⟨by rfl, ?_⟩) ?_ ?_
       rotate_left
       ·intro w'
        go_simp
        with_reducible rfl
       rotate_left
       ·simp only [Act.put, List.setIfInBounds_toArray, List.set_cons_zero, List.set_cons_succ, i64_w, i32_w]
        rfl
       refine pure_ (i := 3) (N := some 75) (v := ?_) (a' := ?_) #[true, true, false, true, false, false, false, false, false, false, false, false, false, false] rfl rfl (any_of HT_.out (by kernel_rfl)) (fun _ _ _ h => h) (Or.inl ⟨by rfl, ?_⟩) ?_ ?_
       rotate_left
       ·intro w'
        go_simp
        with_reducible rfl
       rotate_left
       ·simp only [Act.put, List.setIfInBounds_toArray, List.set_cons_zero, List.set_cons_succ, i64_w, i32_w]
        rfl
       refine pure_ (i := 5) (N := some 77) (v := ?_) (a' := ?_) #[true, true, false, true, false, true, false, false, false, false, false, false, false, false] rfl rfl (any_of HT_.out (by kernel_rfl)) (fun _ _ _ h => h) (Or.inl ⟨by rfl, ?_⟩) ?_ ?_
       rotate_left
       ·intro w'
        go_simp
        with_reducible rfl
       rotate_left
       ·simp only [Act.put, List.setIfInBounds_toArray, List.set_cons_zero, List.set_cons_succ, i64_w, i32_w]
        rfl
       refine pure_ (i := 9) (N := some 81) (v := ?_) (a' := ?_) #[true, true, false, true, false, true, false, false, false, true, false, false, false, false] rfl rfl (any_of HT_.out (by kernel_rfl)) (fun _ _ _ h => h) (Or.inl ⟨by rfl, ?_⟩) ?_ ?_
       rotate_left
       ·intro w'
        go_simp
        with_reducible rfl
       rotate_left
       ·simp only [Act.put, List.setIfInBounds_toArray, List.set_cons_zero, List.set_cons_succ, i64_w, i32_w]
        rfl
       refine take_ (i := 2) (N := some 74) (v := ?_) (a' := ?_) #[true, true, true, true, false, true, false, false, false, true, false, false, false, false] rfl rfl (take_ofW HT_.out HW_.out (by kernel_rfl)) (fun _ _ _ h => h) (Or.inl ⟨by rfl, ?_⟩) hHeld ?_ ?_
       rotate_left
       ·rintro w' ⟨s0, s1, s2, s3, s4, s5, s6, s7, s8, s9, s10, s11, s12, s13, s14, s15, s16⟩
        go_simp
        with_reducible rfl
       rotate_left
       ·simp only [Act.put, List.setIfInBounds_toArray, List.set_cons_zero, List.set_cons_succ, i64_w, i32_w]
        rfl
       refine take_ (i := 4) (N := some 76) (v := ?_) (a' := ?_) #[true, true, true, true, true, true, false, false, false, true, false, false, false, false] rfl rfl (take_ofW HT_.out HW_.out (by kernel_rfl)) (fun _ _ _ h => h) (Or.inl ⟨by rfl, ?_⟩) hHeld ?_ ?_
       rotate_left
       ·rintro w' ⟨s0, s1, s2, s3, s4, s5, s6, s7, s8, s9, s10, s11, s12, s13, s14, s15, s16⟩
        go_simp
        with_reducible rfl
       rotate_left
       ·simp only [Act.put, List.setIfInBounds_toArray, List.set_cons_zero, List.set_cons_succ, i64_w, i32_w]
        rfl
       refine take_ (i := 6) (N := some 78) (v := ?_) (a' := ?_) #[true, true, true, true, true, true, true, false, false, true, false, false, false, false] rfl rfl (take_ofW HT_.out HW_.out (by kernel_rfl)) (fun _ _ _ h => h) (Or.inl ⟨by rfl, ?_⟩) hHeld ?_ ?_
       rotate_left
       ·rintro w' ⟨s0, s1, s2, s3, s4, s5, s6, s7, s8, s9, s10, s11, s12, s13, s14, s15, s16⟩
        go_simp
        with_reducible rfl
       rotate_left
       ·simp only [Act.put, List.setIfInBounds_toArray, List.set_cons_zero, List.set_cons_succ, i64_w, i32_w]
        rfl
       refine take_ (i := 10) (N := some 82) (v := ?_) (a' := ?_) #[true, true, true, true, true, true, true, false, false, true, true, false, false, false] rfl rfl (take_ofW HT_.out HW_.out (by kernel_rfl)) (fun _ _ _ h => h) (Or.inl ⟨by rfl, ?_⟩) hHeld ?_ ?_
       rotate_left
       ·rintro w' ⟨s0, s1, s2, s3, s4, s5, s6, s7, s8, s9, s10, s11, s12, s13, s14, s15, s16⟩
        go_simp
        with_reducible rfl
       rotate_left
       ·simp only [Act.put, List.setIfInBounds_toArray, List.set_cons_zero, List.set_cons_succ, i64_w, i32_w]
        rfl
       refine one_ (i := 7) (N := some 79) #[true, true, true, true, true, true, true, true, false, true, true, false, false, false] rfl rfl (one_of HT_.out (by kernel_rfl)) (by decide) (fun K hK => ?_)
       refine Kd.R_lit_step (Kd.int .i64) _ 2 ?hg (N := 79) ?hd (xs := ([a0_3, a0_4, a0_5] : List Int)) (inner := [.int .i64 a0_3, .int .i64 a0_4, .int .i64 a0_5]) (ok := fun _ => True) (okp := fun _ => True) ?hr ?hp (fun _ hk => hk) trivial (Below.refl _ _) (Nat.le_refl _) (by simp) ?_; (case hd => rfl); (case hg => rfl); (case hr => first | (go_simp; done) | (go_simp; rfl)); (case hp => exact (Reps.one (show Kd.M (Kd.int .i64) _ _ _ a0_3 [.int .i64 a0_3] from rfl) (Reps.one (show Kd.M (Kd.int .i64) _ _ _ a0_4 [.int .i64 a0_4] from rfl) (Reps.one (show Kd.M (Kd.int .i64) _ _ _ a0_5 [.int .i64 a0_5] from rfl) (Reps.none _ _)))))
       intro v519 w102 ho103 hb hg_ hnew_
       clear hg_ hnew_
       (first | rw [← Ny518.out] at ho103 | (simp only [Int.reduceToNat] at ho103; rw [← Ny518.out] at ho103))
       have n0_ := Aside0.mk (Kd.R_elder' (stR HO469.out) (Kd.R_base ho103) hb)
       have n1_ := Aside0.mk (Kd.R_below (stR HO472.out) hb)
       have n2_ := Aside0.mk (Kd.R_lower (Kd.R_new' ho103 (Kd.R_lt (stR HO469.out))) (below_size (by repeat (first | (with_reducible first | exact HB.out | apply below_alloc | apply pw_below_drewN | apply below_drew1 | refine below_set ?_ GE466.out) | exact HB.out))))
       have n3_ := Aside0.mk (blk_below (g := gb466) (o := .cells #[.int .i64 a0_0, .int .i64 a0_1, .int .i64 a0_2, .int .i64 a0_3, .int .i64 a0_4, .int .i64 a0_5, .int .i64 a0_6, .bool a0_7, .slice A0_8 l0_8.length c0_8, .int .i64 a0_9, .int .i64 a0_10, .int .i64 a0_11, .slice A0_12 l0_12.length c0_12, .int .i64 a0_13, .int .i64 a0_14, .int .i64 a0_15, .slice A0_16 l0_16.length c0_16] 34 (0, 0)) (stK BK466.out) hb)
       have n4_ := Aside0.mk (below_step (by repeat (first | (with_reducible first | exact HB.out | apply below_alloc | apply pw_below_drewN | apply below_drew1 | refine below_set ?_ GE466.out) | exact HB.out)) hb)
       clear HO469
       clear HO472
       clear BK466
       clear HB
       have HO469 := n0_
       have HO472 := n1_
       have HO520 := n2_
       have BK466 := n3_
       have HB := n4_
       clear n0_ n1_ n2_ n3_ n4_
       clear hb ho103
       obtain ⟨Ao104, co104, eo104⟩ := Kd.R_slice HO472.out
       (first | subst eo104 | (injection eo104 with f1_ f2_ f3_; have f4_ := f1_.symm; have f5_ := f3_.symm; clear f1_ f2_ f3_; subst f4_; subst f5_))
       obtain ⟨Ao105, co105, eo105⟩ := Kd.R_slice HO520.out
       (first | subst eo105 | (injection eo105 with f1_ f2_ f3_; have f4_ := f1_.symm; have f5_ := f3_.symm; clear f1_ f2_ f3_; subst f4_; subst f5_))
       refine hK.out _ _ (bc17 BK466.out) (fun hHeld => ?_)
       clear hK K
       refine norm_ (a' := ?_) ?_ ?_
       rotate_left
       ·show Act.put _ (some 79) _ = _
        simp only [Act.put, List.setIfInBounds_toArray, List.set_cons_zero, List.set_cons_succ, i64_w, i32_w]
        rfl
       refine one_ (i := 8) (N := some 80) #[true, true, true, true, true, true, true, true, true, true, true, false, false, false] rfl rfl (one_of HT_.out (by kernel_rfl)) (by decide) (fun K hK => ?_)
       refine goes_ Tryz.func97 (by kernel_rfl) rfl #[.slice Ao104 t470.length co104, .slice Ao105 y518.length co105] (by rfl) rfl rfl (by (try simp only [List.map_toArray, List.map_cons, List.map_nil]); first | done | rfl | (simp only [List.length_drop, List.length_take]; rfl)) ?_
       with_reducible refine (trivetref04_num.calls k _ _ t470 _ _ y518 t521 _ ?side1 ?side2 ?side3 ?side4 A91.out).mono ?_
       (case side1 => exact stC ((Kd.R_reads' HO472.out).2.2))
       (case side2 => exact (Kd.R_reads' HO472.out).2.1)
       (case side3 => exact stC ((Kd.R_reads' HO520.out).2.2))
       (case side4 => exact (Kd.R_reads' HO520.out).2.1)
       rintro e w106 ⟨v522, rfl, ho0, hb⟩
       refine ⟨_, rfl, ?_⟩
       have n0_ := Aside0.mk (Kd.R_below (stR HO469.out) hb)
       have n1_ := Aside0.mk (Kd.R_elder' (stR HO472.out) (Kd.R_base ho0) hb)
       have n2_ := Aside0.mk (Kd.R_below (stR HO520.out) hb)
       have n3_ := Aside0.mk (Kd.R_lower (Kd.R_new' ho0 (Kd.R_lt (stR HO472.out))) (below_size (by repeat (first | (with_reducible first | exact HB.out | apply below_alloc | apply pw_below_drewN | apply below_drew1 | refine below_set ?_ GE466.out) | exact HB.out))))
       have n4_ := Aside0.mk (blk_below (g := gb466) (o := .cells #[.int .i64 a0_0, .int .i64 a0_1, .int .i64 a0_2, .int .i64 a0_3, .int .i64 a0_4, .int .i64 a0_5, .int .i64 a0_6, .bool a0_7, .slice A0_8 l0_8.length c0_8, .int .i64 a0_9, .int .i64 a0_10, .int .i64 a0_11, .slice A0_12 l0_12.length c0_12, .int .i64 a0_13, .int .i64 a0_14, .int .i64 a0_15, .slice A0_16 l0_16.length c0_16] 34 (0, 0)) (stK BK466.out) hb)
       have n5_ := Aside0.mk (below_step (by repeat (first | (with_reducible first | exact HB.out | apply below_alloc | apply pw_below_drewN | apply below_drew1 | refine below_set ?_ GE466.out) | exact HB.out)) hb)
       clear HO469
       clear HO472
       clear HO520
       clear BK466
       clear HB
       have HO469 := n0_
       have HO472 := n1_
       have HO520 := n2_
       have HO523 := n3_
       have BK466 := n4_
       have HB := n5_
       clear n0_ n1_ n2_ n3_ n4_ n5_
       (try clear hb)
       (try clear hb2)
       (try clear hk)
       (try clear hi)
       (try clear ho0)
       refine hK.out _ _ (bc17 BK466.out) (fun hHeld => ?_)
       clear hK K
       refine norm_ (a' := ?_) ?_ ?_
       rotate_left
       ·show Act.put _ (some 80) _ = _
        simp only [Act.put, List.setIfInBounds_toArray, List.set_cons_zero, List.set_cons_succ, i64_w, i32_w]
        rfl
       refine one_ (i := 11) (N := some 83) #[true, true, true, true, true, true, true, true, true, true, true, true, false, false] rfl rfl (one_of HT_.out (by kernel_rfl)) (by decide) (fun K hK => ?_)
       refine goes_ Tryz.func106 (by kernel_rfl) rfl #[.agg #[.int .i64 a0_13, .int .i64 a0_14, .int .i64 a0_15, .slice A0_16 l0_16.length c0_16]] (by rfl) rfl rfl (by (try simp only [List.map_toArray, List.map_cons, List.map_nil]); first | done | rfl | (simp only [List.length_drop, List.length_take]; rfl)) ?_
       with_reducible refine (trivetref04_PartForm.calls k a0_13 a0_14 a0_15 _ _ l0_16 t524 _ ?side1 ?side2 A92.out).mono ?_
       (case side1 => exact stC (Kd.C_below HR0_16.out HB.out))
       (case side2 => exact HC0_16.out)
       rintro e w107 ⟨v525, rfl, ho0, hb⟩
       refine ⟨_, rfl, ?_⟩
       have n0_ := Aside0.mk (Kd.R_below (stR HO469.out) hb)
       have n1_ := Aside0.mk (Kd.R_elder' (stR HO472.out) (Kd.R_base ho0) hb)
       have n2_ := Aside0.mk (Kd.R_below (stR HO520.out) hb)
       have n3_ := Aside0.mk (Kd.R_elder' (stR HO523.out) (Kd.R_base ho0) hb)
       have n4_ := Aside0.mk (Kd.R_lower (Kd.R_new' (Kd.R_new' ho0 (Kd.R_lt (stR HO472.out))) (Kd.R_lt (stR HO523.out))) (below_size (by repeat (first | (with_reducible first | exact HB.out | apply below_alloc | apply pw_below_drewN | apply below_drew1 | refine below_set ?_ GE466.out) | exact HB.out))))
       have n5_ := Aside0.mk (blk_below (g := gb466) (o := .cells #[.int .i64 a0_0, .int .i64 a0_1, .int .i64 a0_2, .int .i64 a0_3, .int .i64 a0_4, .int .i64 a0_5, .int .i64 a0_6, .bool a0_7, .slice A0_8 l0_8.length c0_8, .int .i64 a0_9, .int .i64 a0_10, .int .i64 a0_11, .slice A0_12 l0_12.length c0_12, .int .i64 a0_13, .int .i64 a0_14, .int .i64 a0_15, .slice A0_16 l0_16.length c0_16] 34 (0, 0)) (stK BK466.out) hb)
       have n6_ := Aside0.mk (below_step (by repeat (first | (with_reducible first | exact HB.out | apply below_alloc | apply pw_below_drewN | apply below_drew1 | refine below_set ?_ GE466.out) | exact HB.out)) hb)
       clear HO469
       clear HO472
       clear HO520
       clear HO523
       clear BK466
       clear HB
       have HO469 := n0_
       have HO472 := n1_
       have HO520 := n2_
       have HO523 := n3_
       have HO526 := n4_
       have BK466 := n5_
       have HB := n6_
       clear n0_ n1_ n2_ n3_ n4_ n5_ n6_
       (try clear hb)
       (try clear hb2)
       (try clear hk)
       (try clear hi)
       (try clear ho0)
       obtain ⟨Ao109, co109, eo109⟩ := Kd.R_slice HO526.out
       (first | subst eo109 | (injection eo109 with f1_ f2_ f3_; have f4_ := f1_.symm; have f5_ := f3_.symm; clear f1_ f2_ f3_; subst f4_; subst f5_))
       refine hK.out _ _ (bc17 BK466.out) (fun hHeld => ?_)
       clear hK K
       refine norm_ (a' := ?_) ?_ ?_
       rotate_left
       ·show Act.put _ (some 83) _ = _
        simp only [Act.put, List.setIfInBounds_toArray, List.set_cons_zero, List.set_cons_succ, i64_w, i32_w]
        rfl
       refine one_ (i := 12) (N := some 84) #[true, true, true, true, true, true, true, true, true, true, true, true, true, false] rfl rfl (one_of HT_.out (by kernel_rfl)) (by decide) (fun K hK => ?_)
       refine Kd.R_append_rows_step (Kd.int .u8) (w0 := w) w.heap.size (by rfl) (.tmp 80) (.tmp 83) 23 5 (.int .u8 0) 1 rfl Tryz.underlying23 info5 rfl (by decide) (by omega) v522 t521 t524 _ _ _ (fun k_ => some k_ ≠ (.slice Ao104 t470.length co104 : Value).ownBlock ∧ some k_ ≠ (.slice Ao109 t524.length co109 : Value).ownBlock) (fun _ => False) rfl rfl ?aO ?aR (fun _ _ h => h) (fun _ h => h.elim) ?aF ?aB ?aS ?aL ?_
       (case aR => exact stC ((Kd.R_reads' HO526.out).2.2))
       (case aB => exact (by repeat (first | (with_reducible first | exact HB.out | apply below_alloc | apply pw_below_drewN | apply below_drew1 | refine below_set ?_ GE466.out) | exact HB.out)))
       (case aF => exact (fun k_ hk => ⟨Kd.fresh' (Kd.R_lt (stR HO472.out)) k_ hk, Kd.fresh' (Kd.R_lt (stR HO526.out)) k_ hk⟩))
       (case aO => exact (by (with_reducible repeat (first|apply Kd.R_alloc | apply Kd.R_drewN | apply Kd.R_drew)); exact Kd.R_mono HO523.out (fun _ hk => ⟨hk.1.2, hk.2⟩)))
       (case aS => exact (below_size (by repeat (first | (with_reducible first | exact HB.out | apply below_alloc | apply pw_below_drewN | apply below_drew1 | refine below_set ?_ GE466.out) | exact HB.out))))
       (case aL => have := LMc93.out; omega)
       intro v528 w108 ho hb hg hat
       rw [← Ny527.out] at ho
       have n0_ := Aside0.mk (blk_grown (g := gb466) (o := .cells #[.int .i64 a0_0, .int .i64 a0_1, .int .i64 a0_2, .int .i64 a0_3, .int .i64 a0_4, .int .i64 a0_5, .int .i64 a0_6, .bool a0_7, .slice A0_8 l0_8.length c0_8, .int .i64 a0_9, .int .i64 a0_10, .int .i64 a0_11, .slice A0_12 l0_12.length c0_12, .int .i64 a0_13, .int .i64 a0_14, .int .i64 a0_15, .slice A0_16 l0_16.length c0_16] 34 (0, 0)) (stK BK466.out) hg (Kd.R_ne HO523.out BK466.out (by decide)))
       have n1_ := Aside0.mk (Kd.R_over' (stR HO469.out) (Kd.R_typed (stR HO523.out)) (by decide) hg)
       have n2_ := Aside0.mk (Kd.R_after (ok := (fun k_ => some k_ ≠ (.slice Ao109 t524.length co109 : Value).ownBlock)) (by (with_reducible repeat (first|apply Kd.R_alloc | apply Kd.R_drewN | apply Kd.R_drew)); exact Kd.R_mono HO472.out (fun _ hk => ⟨hk.2, hk.1.2⟩)) hg hat)
       have n3_ := Aside0.mk (Kd.R_over' (stR HO520.out) (Kd.R_typed (stR HO523.out)) (by decide) hg)
       have n4_ := Aside0.mk (Kd.R_after (ok := (fun k_ => some k_ ≠ (.slice Ao104 t470.length co104 : Value).ownBlock)) (by (with_reducible repeat (first|apply Kd.R_alloc | apply Kd.R_drewN | apply Kd.R_drew)); exact Kd.R_mono HO526.out (fun _ hk => ⟨hk.1.2, hk.2⟩)) hg hat)
       have n5_ := Aside0.mk (hb)
       have n6_ := Aside0.mk (ho)
       clear BK466
       clear HO469
       clear HO472
       clear HO520
       clear HO526
       clear HB
       clear HO523
       have BK466 := n0_
       have HO469 := n1_
       have HO472 := n2_
       have HO520 := n3_
       have HO526 := n4_
       have HB := n5_
       have HO529 := n6_
       clear n0_ n1_ n2_ n3_ n4_ n5_ n6_
       clear ho hb hg hat
       refine hK.out _ _ (bc17 BK466.out) (fun hHeld => ?_)
       clear hK K
       refine norm_ (a' := ?_) ?_ ?_
       rotate_left
       ·show Act.put _ (some 84) _ = _
        simp only [Act.put, List.setIfInBounds_toArray, List.set_cons_zero, List.set_cons_succ, i64_w, i32_w]
        rfl
       refine pure_ (i := 13) (N := some 2) (v := ?_) (a' := ?_) #[true, true, true, true, true, true, true, true, true, true, true, true, true, true] rfl rfl (any_of HT_.out (by kernel_rfl)) (fun _ _ _ h => h) (Or.inl ⟨by rfl, ?_⟩) ?_ ?_
       rotate_left
       ·intro w'
        go_simp
        with_reducible rfl
       rotate_left
       ·simp only [Act.put, List.setIfInBounds_toArray, List.set_cons_zero, List.set_cons_succ, i64_w, i32_w]
        rfl
       refine done_ (done_of HT_.out (by kernel_rfl)) ?_
       try go_wp2
       go_ret
       exact ⟨_, by first | rfl | (simp [errW_none, errW_some] <;> rfl) | (simp [*, errW_none, errW_some] <;> rfl), by (with_reducible repeat (first|apply Kd.R_alloc | apply Kd.R_drewN | apply Kd.R_drew)); exact Kd.R_mono HO529.out (fun _ hk => trivial), by repeat (first | (with_reducible first | exact HB.out | apply below_alloc | apply pw_below_drewN | apply below_drew1 | refine below_set ?_ GE466.out) | exact HB.out)⟩
      ·rw [if_neg c93] at H
       exact absurd H (by simp)
end Go.Proofs.YtgiefblcckikeaaGreat.G
end

section
/- An entry's and a message's form (the reference's) are entB, msgB. -/
set_option maxRecDepth 100000
namespace Go.Proofs.YtgiefblcckikeaaGreat.M
open Go.RowKit Go.Proofs.YtgiefblcckikeaaGreatW.PrintWords Go.Proofs.YtgiefblcckikeaaGreat.G
theorem rdTx_eq {l : List TxD} {i : Nat} {x : TxD} (h : l[i]? = some x) : G.rd_T26 l (i : Int) = x := by unfold G.rd_T26; rw [Int.toNat_natCast, List.getD_eq_getElem?_getD, h]; rfl
theorem rdTr_eq {l : List TrD} {i : Nat} {x : TrD} (h : l[i]? = some x) : G.rd_T63 l (i : Int) = x := by unfold G.rd_T63; rw [Int.toNat_natCast, List.getD_eq_getElem?_getD, h]; rfl
theorem entform_l (x y z : Int) : ∀ (k : Nat) (acc : List Int) (a : List TxD) (i : Nat), a.length + 110 < i + k → i ≤ a.length → (∀ t ∈ a, okT t = true ∧ mayT t = true) → acc.length + 1300 * (a.length - i) < 140737488355000 → a.length ≤ 1000000 → G.trivetref04_EntryForm.l0 k acc (i : Int) x y z a = some (acc ++ (a.drop i).flatMap txB)
 | 0, acc, a, i, hk, hi, _, _, _ => by omega
 | k + 1, acc, a, i, hk, hi, ho, hs, hm => by
  simp only [G.trivetref04_EntryForm.l0]
  by_cases hlt : i < a.length
  ·obtain ⟨t, hx⟩ : ∃ t, a[i]? = some t := ⟨_, List.getElem?_eq_getElem hlt⟩
   have d1 := drop_cons hx
   have hw : wrap64 ((i : Int) + 1) = ((i + 1 : Nat) : Int) := by unfold wrap64; omega
   obtain ⟨h1, h2⟩ := ho t (List.mem_of_getElem? hx)
   have hl := txB_len h1 h2
   rw [if_pos (by omega : (i : Int) < (a.length : Int)), if_pos (by omega : (0 : Int) ≤ (i : Int)), rdTx_eq hx, txform_f k t h1 h2 (by omega), Option.bind_some, if_pos (by omega), hw]
   rw [entform_l x y z k _ a (i + 1) (by omega) (by omega) ho (by rw [List.length_append]; omega) hm, d1, List.flatMap_cons, List.append_assoc]
  ·rw [if_neg (by omega), List.drop_of_length_le (by omega)]
   simp
theorem numsB3 (a b c : Int) : numsB [a, b, c] = numsB [a, b] ++ numB c := by simp [numsB]
theorem entform_f (k : Nat) (e f n : Int) (l : List TxD) (ho : okE e f n l = true) (hm : mayE e f n l = true) (hk : 200 ≤ k) : G.trivetref04_EntryForm.f k e f n l = some (entB e f n l) := by
 obtain ⟨o1, o2, o3⟩ := okE_parts ho
 unfold G.trivetref04_EntryForm.f entB
 have e1 := (numB_len o1).2
 rw [rnum_f k [] [e] (okI1 o1) (by simp) (by simp; omega), Option.bind_some, numsB1, List.nil_append]
 by_cases h0 : e = 0
 ·rw [if_neg (by omega), if_pos h0, h0]
 ·obtain ⟨h1, h2, h3⟩ := mayE_one hm h0
  rw [if_pos h1, if_neg h0]
  have hn : isI64 (l.length : Int) := nat_i64 _ (by omega)
  have e3 := (numB_len hn).2
  have e2 := numsB2_len o2
  have o4 : okI [f, n, (l.length : Int)] = true := by simp only [okI_cons] at o2 ⊢; exact ⟨o2.1, o2.2.1, hn, rfl⟩
  rw [rnum_f k (numB e) [f, n, (l.length : Int)] o4 (by simp only [List.length_cons, List.length_nil]; omega) (by simp; omega), Option.bind_some, numsB3]
  have := entform_l e f n k (numB e ++ (numsB [f, n] ++ numB l.length)) l 0 (by omega) (by omega) (fun t ht => ⟨List.all_eq_true.1 o3 t ht, List.all_eq_true.1 h3 t ht⟩) (by simp only [List.length_append]; omega) (by omega)
  rw [show ((0 : Nat) : Int) = 0 from rfl] at this
  rw [this, List.drop_zero]
  simp only [List.append_assoc]
theorem lists_l : ∀ (k : Nat) (acc : List Int) (a : List TrD) (i : Nat), a.length + 300 < i + k → i ≤ a.length → (∀ x ∈ a, (isI64 x.f0 ∧ okE x.f1.f0 x.f1.f1 x.f1.f2 x.f1.f3 = true) ∧ mayE x.f1.f0 x.f1.f1 x.f1.f2 x.f1.f3 = true) → acc.length + 25009 * (a.length - i) < 140737488355000 → a.length ≤ 1000000 → G.trivetref04_lists.l0 k acc a (i : Int) = some (acc ++ (a.drop i).flatMap trB)
 | 0, acc, a, i, hk, hi, _, _, _ => by omega
 | k + 1, acc, a, i, hk, hi, ho, hs, hm => by
  simp only [G.trivetref04_lists.l0]
  by_cases hlt : i < a.length
  ·obtain ⟨x, hx⟩ : ∃ x, a[i]? = some x := ⟨_, List.getElem?_eq_getElem hlt⟩
   have d1 := drop_cons hx
   have hw : wrap64 ((i : Int) + 1) = ((i + 1 : Nat) : Int) := by unfold wrap64; omega
   obtain ⟨h1, h2⟩ := ho x (List.mem_of_getElem? hx)
   have hl := trB_len h1 h2
   have hl2 : (trB x).length = (numB x.f0).length + (entB x.f1.f0 x.f1.f1 x.f1.f2 x.f1.f3).length := by unfold trB; rw [List.length_append]
   rw [if_pos (by omega : (i : Int) < (a.length : Int)), if_pos (by omega : (0 : Int) ≤ (i : Int)), rdTr_eq hx, rnum_f k acc [x.f0] (okI1 h1.1) (by simp only [List.length_cons, List.length_nil]; omega) (by simp; omega), Option.bind_some, numsB1,
    entform_f k _ _ _ _ h1.2 h2 (by omega), Option.bind_some, if_pos (by rw [List.length_append]; omega), hw]
   rw [lists_l k _ a (i + 1) (by omega) (by omega) ho (by simp only [List.length_append]; omega) hm, d1, List.flatMap_cons]
   unfold trB
   simp only [List.append_assoc]
  ·rw [if_neg (by omega), List.drop_of_length_le (by omega)]
   simp
theorem lists_f (k : Nat) (acc : List Int) (a : List TrD) (hk : a.length + 300 < k) (ho : ∀ x ∈ a, (isI64 x.f0 ∧ okE x.f1.f0 x.f1.f1 x.f1.f2 x.f1.f3 = true) ∧ mayE x.f1.f0 x.f1.f1 x.f1.f2 x.f1.f3 = true) (hs : acc.length + 200000000 < 140737488355000) (hm : a.length ≤ 4096) : G.trivetref04_lists.f k acc a = some (acc ++ numB a.length ++ a.flatMap trB) := by
 have hn : isI64 (a.length : Int) := nat_i64 _ (by omega)
 have hl := (numB_len hn).2
 unfold G.trivetref04_lists.f
 rw [rnum_f k acc [(a.length : Int)] (okI1 hn) (by simp only [List.length_cons, List.length_nil]; omega) (by simp; omega), Option.bind_some, numsB1]
 have := lists_l k (acc ++ numB a.length) a 0 (by omega) (by omega) ho (by rw [List.length_append]; omega) (by omega)
 rw [show ((0 : Nat) : Int) = 0 from rfl] at this
 rw [this, List.drop_zero]
theorem ryes_f (k : Nat) (l : List Int) (b : Bool) (hs : l.length + 9 < 140737488355328) (hk : 11 ≤ k) : G.trivetref04_yes.f k l b = some (l ++ yesB b) := by
 unfold G.trivetref04_yes.f yesB
 cases b with
 | true => rw [if_pos rfl, rnum_f k l [1] (okI1 (by decide)) (by simpa using hs) (by simp; omega), Option.bind_some, numsB1]; rfl
 | false => rw [if_neg (by simp), rnum_f k l [0] (okI1 (by decide)) (by simpa using hs) (by simp; omega), Option.bind_some, numsB1]; rfl
theorem msgform_f (k : Nat) (m : MsgD) (ho : OkM m) (hy : mayMs m = true) (hk : m.f8.length + 400 < k) : G.trivetref04_MsgForm.f k m.f0 m.f1 m.f2 m.f3 m.f4 m.f5 m.f6 m.f7 m.f8 m.f9.f0 m.f9.f1 m.f9.f2 m.f9.f3 m.f10.f0 m.f10.f1 m.f10.f2 m.f10.f3 = some (msgB m) := by
 unfold mayMs at hy
 simp only [Bool.and_eq_true] at hy
 obtain ⟨_, _, _, hkd, _, h8, hl, h5, h6⟩ := hy
 have h8 := of_decide_eq_true h8
 have e0 := numsB_le ho.h 27 (by simp)
 have e1 := ho.t
 simp only [okI_cons] at e1
 have e2 := ho.p
 simp only [okI_cons] at e2
 have o1 : okI [m.f3] = true := okI1 e1.1
 have o3 : okI [m.f3, m.f4, m.f5] = true := by simp only [okI_cons]; exact ⟨e1.1, e1.2.1, e1.2.2.1, rfl⟩
 have a1 := (numB_len e1.1).2
 have a3 := numsB_le o3 27 (by simp)
 have a4 := numsB_le ho.t 36 (by simp)
 have a5 := numsB_le ho.p 27 (by simp)
 have a6 := yesB_len m.f7
 unfold G.trivetref04_MsgForm.f msgB tailB
 rw [rnum_f k [] [m.f0, m.f1, m.f2] ho.h (by simp) (by simp; omega), Option.bind_some, List.nil_append]
 by_cases k6 : m.f0 = 6
 ·rw [k6] at h6
  have hme : mayE m.f9.f0 m.f9.f1 m.f9.f2 m.f9.f3 = true := by simpa using h6
  have e9 := entB_len ho.e hme
  rw [if_pos k6, entform_f k _ _ _ _ ho.e hme (by omega), Option.bind_some, if_pos (by omega), if_neg (by omega), if_neg (by omega), if_neg (by omega), if_neg (by omega), if_neg (by omega)]
 rw [if_neg k6]
 by_cases k1 : m.f0 = 1
 ·rw [if_pos k1, if_pos k1, rnum_f k _ _ o3 (by simp only [List.length_cons, List.length_nil]; omega) (by simp; omega), Option.bind_some]
 rw [if_neg k1, if_neg k1]
 by_cases k2 : m.f0 = 2
 ·rw [if_pos k2, if_pos k2, rnum_f k _ _ o1 (by simp only [List.length_cons, List.length_nil]; omega) (by simp; omega), Option.bind_some, numsB1, ryes_f k _ _ (by rw [List.length_append]; omega) (by omega), Option.bind_some, List.append_assoc]
 rw [if_neg k2, if_neg k2]
 by_cases k3 : m.f0 = 3
 ·rw [if_pos k3, if_pos k3, rnum_f k _ _ ho.t (by simp only [List.length_cons, List.length_nil]; omega) (by simp; omega), Option.bind_some, lists_f k _ _ (by omega) (fun x hx => ⟨ho.l x hx, mayTr_e (List.all_eq_true.1 hl x hx)⟩) (by rw [List.length_append]; omega) (by omega), Option.bind_some]
  simp only [List.append_assoc]
 rw [if_neg k3, if_neg k3]
 by_cases k4 : m.f0 = 4
 ·rw [if_pos k4, if_pos k4, rnum_f k _ _ o1 (by simp only [List.length_cons, List.length_nil]; omega) (by simp; omega), Option.bind_some, numsB1, ryes_f k _ _ (by rw [List.length_append]; omega) (by omega), Option.bind_some, rnum_f k _ [m.f4] (okI1 e1.2.1) (by simp only [List.length_append, List.length_cons, List.length_nil]; omega) (by simp; omega), Option.bind_some, numsB1]
  simp only [List.append_assoc]
 rw [if_neg k4, if_neg k4]
 have k5 : m.f0 = 5 := by
  unfold isKind at hkd
  simp only [Bool.and_eq_true, decide_eq_true_eq] at hkd
  omega
 rw [k5] at h5
 have h7 : mayPt m.f10 = true := by simpa using h5
 unfold mayPt at h7
 simp only [Bool.and_eq_true, decide_eq_true_eq] at h7
 have h9 := h7.2.2.2
 have e9 := (numB_len (nat_i64 m.f10.f3.length (by omega))).2
 rw [if_pos k5, rnum_f k _ _ o3 (by simp only [List.length_cons, List.length_nil]; omega) (by simp; omega), Option.bind_some]
 unfold G.trivetref04_PartForm.f
 rw [rnum_f k [] [m.f10.f0, m.f10.f1, m.f10.f2] ho.p (by simp) (by simp; omega), Option.bind_some, List.nil_append, rblob_f k _ _ (by omega) (by omega), Option.bind_some, Option.bind_some, if_pos (by simp only [List.length_append]; omega)]
 congr 1
 simp [numsB, List.append_assoc]
end Go.Proofs.YtgiefblcckikeaaGreat.M
end

section
/- A message without what its kind does not have: record.bare, the reference's plain (printed by genbare04.py). -/
set_option maxRecDepth 100000
attribute [local irreducible] Go.wpStill
namespace Go.Proofs.YtgiefblcckikeaaGreat.M
open Go.RowKit Go.Proofs.YtgiefblcckikeaaGreatW.PrintWords Go.Proofs.YtgiefblcckikeaaGreatW.PrintLast Go.Proofs.YtgiefblcckikeaaGreatW.PrintMore Go.Proofs.YtgiefblcckikeaaGreat.G
set_option maxHeartbeats 4000000 in
theorem plain_k6 {w : World} (m : MsgD) {A8 A12 A16 : Option Addr} {c8 c12 c16 : Nat} (hm : MsgC w m A8 c8 A12 c12 A16 c16) (hk : m.f0 = 6) :
  Calls Tryz.prog 68 #[.agg #[.int .i64 m.f0, .int .i64 m.f1, .int .i64 m.f2, .int .i64 m.f3, .int .i64 m.f4, .int .i64 m.f5, .int .i64 m.f6, .bool m.f7, .slice A8 m.f8.length c8, .int .i64 m.f9.f0, .int .i64 m.f9.f1, .int .i64 m.f9.f2, .slice A12 m.f9.f3.length c12, .int .i64 m.f10.f0, .int .i64 m.f10.f1, .int .i64 m.f10.f2, .slice A16 m.f10.f3.length c16]] w fun e w' => BareP w m e w' := by
 have t6 : (m.f0 == 6) = true := by rw [hk]; rfl
 have t1 : (m.f0 == 1) = false := by rw [hk]; rfl
 have t2 : (m.f0 == 2) = false := by rw [hk]; rfl
 have t3 : (m.f0 == 3) = false := by rw [hk]; rfl
 have t4 : (m.f0 == 4) = false := by rw [hk]; rfl
 have t5 : (m.f0 == 5) = false := by rw [hk]; rfl
 have HK := Lib.hid hk
 clear hk
 have HM := Lib.hid hm
 have HT0 := Lib.hid (bare_start w m A8 A12 A16 c8 c12 c16)
 clear hm
 go_enter Tryz.func68, Tryz.ntmps68
 go_upto_region 2 with fail
 obtain ⟨w0, hw⟩ : ∃ w0, (((w.alloc (.cells #[.int .i64 m.f0, .int .i64 m.f1, .int .i64 m.f2, .int .i64 m.f3, .int .i64 m.f4, .int .i64 m.f5, .int .i64 m.f6, .bool m.f7, .slice A8 m.f8.length c8, .int .i64 m.f9.f0, .int .i64 m.f9.f1, .int .i64 m.f9.f2, .slice A12 m.f9.f3.length c12, .int .i64 m.f10.f0, .int .i64 m.f10.f1, .int .i64 m.f10.f2, .slice A16 m.f10.f3.length c16] 34)).alloc (.cells #[.int .i64 0, .int .i64 0, .int .i64 0, .int .i64 0, .int .i64 0, .int .i64 0, .int .i64 0, .bool false, .slice none 0 0, .int .i64 0, .int .i64 0, .int .i64 0, .slice none 0 0, .int .i64 0, .int .i64 0, .int .i64 0, .slice none 0 0] 34)).alloc (.cells #[.int .i64 m.f0, .int .i64 m.f1, .int .i64 m.f2, .int .i64 0, .int .i64 0, .int .i64 0, .int .i64 0, .bool false, .slice none 0 0, .int .i64 0, .int .i64 0, .int .i64 0, .slice none 0 0, .int .i64 0, .int .i64 0, .int .i64 0, .slice none 0 0] 34)) = w0 := ⟨_, rfl⟩
 obtain ⟨g, hg⟩ : ∃ g, w.heap.size = g := ⟨_, rfl⟩
 have HG := Lib.hid hg
 rw [hw] at HT0 ⊢
 rw [hg] at HT0 ⊢
 clear hw hg
 obtain ⟨a0, a1, a2, a3, a4, a5, a6, a7, a8, a9, a10, a11, a12, a13, a14, a15, a16⟩ := MsBox.cell HT0.out.h.now
 have b9 : w0.cell? ⟨g + 1 + 1, 9, none⟩ = some (.int .i64 0) := (blk_cell HT0.out.y 9).trans rfl
 have z9 : w0.frozen? ⟨g + 1 + 1, 9, none⟩ = false := blk_frozen HT0.out.y 9
 have b10 : w0.cell? ⟨g + 1 + 1, 10, none⟩ = some (.int .i64 0) := (blk_cell HT0.out.y 10).trans rfl
 have z10 : w0.frozen? ⟨g + 1 + 1, 10, none⟩ = false := blk_frozen HT0.out.y 10
 have b11 : w0.cell? ⟨g + 1 + 1, 11, none⟩ = some (.int .i64 0) := (blk_cell HT0.out.y 11).trans rfl
 have z11 : w0.frozen? ⟨g + 1 + 1, 11, none⟩ = false := blk_frozen HT0.out.y 11
 have b12 : w0.cell? ⟨g + 1 + 1, 12, none⟩ = some (.slice none 0 0) := (blk_cell HT0.out.y 12).trans rfl
 have z12 : w0.frozen? ⟨g + 1 + 1, 12, none⟩ = false := blk_frozen HT0.out.y 12
 have hne : g + 1 + 1 ≠ g := by omega
 have hne2 : g ≠ g + 1 + 1 := by omega
 go_upto_region 4 with fail
 have hT : Bx w (g + 1 + 1) (g + 1) 34 #[.int .i64 0, .int .i64 0, .int .i64 0, .int .i64 0, .int .i64 0, .int .i64 0, .int .i64 0, .bool false, .slice none 0 0, .int .i64 0, .int .i64 0, .int .i64 0, .slice none 0 0, .int .i64 0, .int .i64 0, .int .i64 0, .slice none 0 0] #[.int .i64 m.f0, .int .i64 m.f1, .int .i64 m.f2, .int .i64 0, .int .i64 0, .int .i64 0, .int .i64 0, .bool false, .slice none 0 0, .int .i64 m.f9.f0, .int .i64 m.f9.f1, .int .i64 m.f9.f2, .slice A12 m.f9.f3.length c12, .int .i64 0, .int .i64 0, .int .i64 0, .slice none 0 0] _ _ := ((((HT0.out.put 9 (.int .i64 m.f9.f0)).put 10 (.int .i64 m.f9.f1)).put 11 (.int .i64 m.f9.f2)).put 12 (.slice A12 m.f9.f3.length c12))
 have HT1 := Lib.hid hT
 clear hT
 obtain ⟨w1, hw⟩ : ∃ w1, ((((w0.setCell ⟨g + 1 + 1, 9, none⟩ (.int .i64 m.f9.f0)).setCell ⟨g + 1 + 1, 10, none⟩ (.int .i64 m.f9.f1)).setCell ⟨g + 1 + 1, 11, none⟩ (.int .i64 m.f9.f2)).setCell ⟨g + 1 + 1, 12, none⟩ (.slice A12 m.f9.f3.length c12)) = w1 := ⟨_, rfl⟩
 rw [hw] at HT1 ⊢
 clear hw
 refine wp_region_list ?_
 refine wpList_load_row rfl 34 (.tmp 4) rfl (g + 1 + 1) rfl 34 #[.int .i64 m.f0, .int .i64 m.f1, .int .i64 m.f2, .int .i64 0, .int .i64 0, .int .i64 0, .int .i64 0, .bool false, .slice none 0 0, .int .i64 m.f9.f0, .int .i64 m.f9.f1, .int .i64 m.f9.f2, .slice A12 m.f9.f3.length c12, .int .i64 0, .int .i64 0, .int .i64 0, .slice none 0 0] (0, 0) _ HT1.out.y Tryz.underlying34 rfl (by kernel_rfl) ?_
 refine wpList_store_row rfl 34 (.tmp 2) (.tmp 18) rfl (g + 1) #[.int .i64 m.f0, .int .i64 m.f1, .int .i64 m.f2, .int .i64 0, .int .i64 0, .int .i64 0, .int .i64 0, .bool false, .slice none 0 0, .int .i64 m.f9.f0, .int .i64 m.f9.f1, .int .i64 m.f9.f2, .slice A12 m.f9.f3.length c12, .int .i64 0, .int .i64 0, .int .i64 0, .slice none 0 0] rfl rfl 34 #[.int .i64 0, .int .i64 0, .int .i64 0, .int .i64 0, .int .i64 0, .int .i64 0, .int .i64 0, .bool false, .slice none 0 0, .int .i64 0, .int .i64 0, .int .i64 0, .slice none 0 0, .int .i64 0, .int .i64 0, .int .i64 0, .slice none 0 0] HT1.out.g0 (by kernel_rfl) rfl (by simp [Value.oneCell']) ?_
 have HD := Lib.hid (HT1.out.fin (cs' := #[.int .i64 m.f0, .int .i64 m.f1, .int .i64 m.f2, .int .i64 0, .int .i64 0, .int .i64 0, .int .i64 0, .bool false, .slice none 0 0, .int .i64 m.f9.f0, .int .i64 m.f9.f1, .int .i64 m.f9.f2, .slice A12 m.f9.f3.length c12, .int .i64 0, .int .i64 0, .int .i64 0, .slice none 0 0]))
 obtain ⟨W, hW⟩ : ∃ W, w1.setRow (g + 1) #[.int .i64 m.f0, .int .i64 m.f1, .int .i64 m.f2, .int .i64 0, .int .i64 0, .int .i64 0, .int .i64 0, .bool false, .slice none 0 0, .int .i64 m.f9.f0, .int .i64 m.f9.f1, .int .i64 m.f9.f2, .slice A12 m.f9.f3.length c12, .int .i64 0, .int .i64 0, .int .i64 0, .slice none 0 0] = W := ⟨_, rfl⟩
 rw [hW] at HD ⊢
 clear hW
 go_wp2_with fail
 refine bodyPost_ret (results_ct rfl _ _ (g + 1) 34 #[.int .i64 m.f0, .int .i64 m.f1, .int .i64 m.f2, .int .i64 0, .int .i64 0, .int .i64 0, .int .i64 0, .bool false, .slice none 0 0, .int .i64 m.f9.f0, .int .i64 m.f9.f1, .int .i64 m.f9.f2, .slice A12 m.f9.f3.length c12, .int .i64 0, .int .i64 0, .int .i64 0, .slice none 0 0] (0, 0) _ rfl HD.out.1 Tryz.underlying34 rfl (by kernel_rfl)) rfl ?_
 have hik : isKind m.f0 = true := by rw [HK.out]; rfl
 refine ⟨⟨m.f0, m.f1, m.f2, 0, 0, 0, 0, false, [], m.f9, zP⟩, none, A12, none, 0, c12, 0, by rw [hik]; rfl, fun _ => by unfold bareM; simp [HK.out], ⟨Nat.le_refl 0, Kd.C_nil _ _, HM.out.l12, Kd.C_below HM.out.g12 HD.out.2.2, Nat.le_refl 0, Kd.C_nil _ _⟩, HD.out.2.2⟩
set_option maxHeartbeats 4000000 in
theorem plain_k1 {w : World} (m : MsgD) {A8 A12 A16 : Option Addr} {c8 c12 c16 : Nat} (hm : MsgC w m A8 c8 A12 c12 A16 c16) (hk : m.f0 = 1) :
  Calls Tryz.prog 68 #[.agg #[.int .i64 m.f0, .int .i64 m.f1, .int .i64 m.f2, .int .i64 m.f3, .int .i64 m.f4, .int .i64 m.f5, .int .i64 m.f6, .bool m.f7, .slice A8 m.f8.length c8, .int .i64 m.f9.f0, .int .i64 m.f9.f1, .int .i64 m.f9.f2, .slice A12 m.f9.f3.length c12, .int .i64 m.f10.f0, .int .i64 m.f10.f1, .int .i64 m.f10.f2, .slice A16 m.f10.f3.length c16]] w fun e w' => BareP w m e w' := by
 have t6 : (m.f0 == 6) = false := by rw [hk]; rfl
 have t1 : (m.f0 == 1) = true := by rw [hk]; rfl
 have t2 : (m.f0 == 2) = false := by rw [hk]; rfl
 have t3 : (m.f0 == 3) = false := by rw [hk]; rfl
 have t4 : (m.f0 == 4) = false := by rw [hk]; rfl
 have t5 : (m.f0 == 5) = false := by rw [hk]; rfl
 have HK := Lib.hid hk
 clear hk
 have HM := Lib.hid hm
 have HT0 := Lib.hid (bare_start w m A8 A12 A16 c8 c12 c16)
 clear hm
 go_enter Tryz.func68, Tryz.ntmps68
 go_upto_region 2 with fail
 obtain ⟨w0, hw⟩ : ∃ w0, (((w.alloc (.cells #[.int .i64 m.f0, .int .i64 m.f1, .int .i64 m.f2, .int .i64 m.f3, .int .i64 m.f4, .int .i64 m.f5, .int .i64 m.f6, .bool m.f7, .slice A8 m.f8.length c8, .int .i64 m.f9.f0, .int .i64 m.f9.f1, .int .i64 m.f9.f2, .slice A12 m.f9.f3.length c12, .int .i64 m.f10.f0, .int .i64 m.f10.f1, .int .i64 m.f10.f2, .slice A16 m.f10.f3.length c16] 34)).alloc (.cells #[.int .i64 0, .int .i64 0, .int .i64 0, .int .i64 0, .int .i64 0, .int .i64 0, .int .i64 0, .bool false, .slice none 0 0, .int .i64 0, .int .i64 0, .int .i64 0, .slice none 0 0, .int .i64 0, .int .i64 0, .int .i64 0, .slice none 0 0] 34)).alloc (.cells #[.int .i64 m.f0, .int .i64 m.f1, .int .i64 m.f2, .int .i64 0, .int .i64 0, .int .i64 0, .int .i64 0, .bool false, .slice none 0 0, .int .i64 0, .int .i64 0, .int .i64 0, .slice none 0 0, .int .i64 0, .int .i64 0, .int .i64 0, .slice none 0 0] 34)) = w0 := ⟨_, rfl⟩
 obtain ⟨g, hg⟩ : ∃ g, w.heap.size = g := ⟨_, rfl⟩
 have HG := Lib.hid hg
 rw [hw] at HT0 ⊢
 rw [hg] at HT0 ⊢
 clear hw hg
 obtain ⟨a0, a1, a2, a3, a4, a5, a6, a7, a8, a9, a10, a11, a12, a13, a14, a15, a16⟩ := MsBox.cell HT0.out.h.now
 have b3 : w0.cell? ⟨g + 1 + 1, 3, none⟩ = some (.int .i64 0) := (blk_cell HT0.out.y 3).trans rfl
 have z3 : w0.frozen? ⟨g + 1 + 1, 3, none⟩ = false := blk_frozen HT0.out.y 3
 have b4 : w0.cell? ⟨g + 1 + 1, 4, none⟩ = some (.int .i64 0) := (blk_cell HT0.out.y 4).trans rfl
 have z4 : w0.frozen? ⟨g + 1 + 1, 4, none⟩ = false := blk_frozen HT0.out.y 4
 have b5 : w0.cell? ⟨g + 1 + 1, 5, none⟩ = some (.int .i64 0) := (blk_cell HT0.out.y 5).trans rfl
 have z5 : w0.frozen? ⟨g + 1 + 1, 5, none⟩ = false := blk_frozen HT0.out.y 5
 have hne : g + 1 + 1 ≠ g := by omega
 have hne2 : g ≠ g + 1 + 1 := by omega
 go_upto_region 24 with fail
 have hT : Bx w (g + 1 + 1) (g + 1) 34 #[.int .i64 0, .int .i64 0, .int .i64 0, .int .i64 0, .int .i64 0, .int .i64 0, .int .i64 0, .bool false, .slice none 0 0, .int .i64 0, .int .i64 0, .int .i64 0, .slice none 0 0, .int .i64 0, .int .i64 0, .int .i64 0, .slice none 0 0] #[.int .i64 m.f0, .int .i64 m.f1, .int .i64 m.f2, .int .i64 m.f3, .int .i64 m.f4, .int .i64 m.f5, .int .i64 0, .bool false, .slice none 0 0, .int .i64 0, .int .i64 0, .int .i64 0, .slice none 0 0, .int .i64 0, .int .i64 0, .int .i64 0, .slice none 0 0] _ _ := (((HT0.out.put 3 (.int .i64 m.f3)).put 4 (.int .i64 m.f4)).put 5 (.int .i64 m.f5))
 have HT1 := Lib.hid hT
 clear hT
 obtain ⟨w1, hw⟩ : ∃ w1, (((w0.setCell ⟨g + 1 + 1, 3, none⟩ (.int .i64 m.f3)).setCell ⟨g + 1 + 1, 4, none⟩ (.int .i64 m.f4)).setCell ⟨g + 1 + 1, 5, none⟩ (.int .i64 m.f5)) = w1 := ⟨_, rfl⟩
 rw [hw] at HT1 ⊢
 clear hw
 refine wp_region_list ?_
 refine wpList_load_row rfl 34 (.tmp 4) rfl (g + 1 + 1) rfl 34 #[.int .i64 m.f0, .int .i64 m.f1, .int .i64 m.f2, .int .i64 m.f3, .int .i64 m.f4, .int .i64 m.f5, .int .i64 0, .bool false, .slice none 0 0, .int .i64 0, .int .i64 0, .int .i64 0, .slice none 0 0, .int .i64 0, .int .i64 0, .int .i64 0, .slice none 0 0] (0, 0) _ HT1.out.y Tryz.underlying34 rfl (by kernel_rfl) ?_
 refine wpList_store_row rfl 34 (.tmp 2) (.tmp 61) rfl (g + 1) #[.int .i64 m.f0, .int .i64 m.f1, .int .i64 m.f2, .int .i64 m.f3, .int .i64 m.f4, .int .i64 m.f5, .int .i64 0, .bool false, .slice none 0 0, .int .i64 0, .int .i64 0, .int .i64 0, .slice none 0 0, .int .i64 0, .int .i64 0, .int .i64 0, .slice none 0 0] rfl rfl 34 #[.int .i64 0, .int .i64 0, .int .i64 0, .int .i64 0, .int .i64 0, .int .i64 0, .int .i64 0, .bool false, .slice none 0 0, .int .i64 0, .int .i64 0, .int .i64 0, .slice none 0 0, .int .i64 0, .int .i64 0, .int .i64 0, .slice none 0 0] HT1.out.g0 (by kernel_rfl) rfl (by simp [Value.oneCell']) ?_
 have HD := Lib.hid (HT1.out.fin (cs' := #[.int .i64 m.f0, .int .i64 m.f1, .int .i64 m.f2, .int .i64 m.f3, .int .i64 m.f4, .int .i64 m.f5, .int .i64 0, .bool false, .slice none 0 0, .int .i64 0, .int .i64 0, .int .i64 0, .slice none 0 0, .int .i64 0, .int .i64 0, .int .i64 0, .slice none 0 0]))
 obtain ⟨W, hW⟩ : ∃ W, w1.setRow (g + 1) #[.int .i64 m.f0, .int .i64 m.f1, .int .i64 m.f2, .int .i64 m.f3, .int .i64 m.f4, .int .i64 m.f5, .int .i64 0, .bool false, .slice none 0 0, .int .i64 0, .int .i64 0, .int .i64 0, .slice none 0 0, .int .i64 0, .int .i64 0, .int .i64 0, .slice none 0 0] = W := ⟨_, rfl⟩
 rw [hW] at HD ⊢
 clear hW
 go_wp2_with fail
 refine bodyPost_ret (results_ct rfl _ _ (g + 1) 34 #[.int .i64 m.f0, .int .i64 m.f1, .int .i64 m.f2, .int .i64 m.f3, .int .i64 m.f4, .int .i64 m.f5, .int .i64 0, .bool false, .slice none 0 0, .int .i64 0, .int .i64 0, .int .i64 0, .slice none 0 0, .int .i64 0, .int .i64 0, .int .i64 0, .slice none 0 0] (0, 0) _ rfl HD.out.1 Tryz.underlying34 rfl (by kernel_rfl)) rfl ?_
 have hik : isKind m.f0 = true := by rw [HK.out]; rfl
 refine ⟨⟨m.f0, m.f1, m.f2, m.f3, m.f4, m.f5, 0, false, [], zE, zP⟩, none, none, none, 0, 0, 0, by rw [hik]; rfl, fun _ => by unfold bareM; simp [HK.out], ⟨Nat.le_refl 0, Kd.C_nil _ _, Nat.le_refl 0, Kd.C_nil _ _, Nat.le_refl 0, Kd.C_nil _ _⟩, HD.out.2.2⟩
set_option maxHeartbeats 4000000 in
theorem plain_k2 {w : World} (m : MsgD) {A8 A12 A16 : Option Addr} {c8 c12 c16 : Nat} (hm : MsgC w m A8 c8 A12 c12 A16 c16) (hk : m.f0 = 2) :
  Calls Tryz.prog 68 #[.agg #[.int .i64 m.f0, .int .i64 m.f1, .int .i64 m.f2, .int .i64 m.f3, .int .i64 m.f4, .int .i64 m.f5, .int .i64 m.f6, .bool m.f7, .slice A8 m.f8.length c8, .int .i64 m.f9.f0, .int .i64 m.f9.f1, .int .i64 m.f9.f2, .slice A12 m.f9.f3.length c12, .int .i64 m.f10.f0, .int .i64 m.f10.f1, .int .i64 m.f10.f2, .slice A16 m.f10.f3.length c16]] w fun e w' => BareP w m e w' := by
 have t6 : (m.f0 == 6) = false := by rw [hk]; rfl
 have t1 : (m.f0 == 1) = false := by rw [hk]; rfl
 have t2 : (m.f0 == 2) = true := by rw [hk]; rfl
 have t3 : (m.f0 == 3) = false := by rw [hk]; rfl
 have t4 : (m.f0 == 4) = false := by rw [hk]; rfl
 have t5 : (m.f0 == 5) = false := by rw [hk]; rfl
 have HK := Lib.hid hk
 clear hk
 have HM := Lib.hid hm
 have HT0 := Lib.hid (bare_start w m A8 A12 A16 c8 c12 c16)
 clear hm
 go_enter Tryz.func68, Tryz.ntmps68
 go_upto_region 2 with fail
 obtain ⟨w0, hw⟩ : ∃ w0, (((w.alloc (.cells #[.int .i64 m.f0, .int .i64 m.f1, .int .i64 m.f2, .int .i64 m.f3, .int .i64 m.f4, .int .i64 m.f5, .int .i64 m.f6, .bool m.f7, .slice A8 m.f8.length c8, .int .i64 m.f9.f0, .int .i64 m.f9.f1, .int .i64 m.f9.f2, .slice A12 m.f9.f3.length c12, .int .i64 m.f10.f0, .int .i64 m.f10.f1, .int .i64 m.f10.f2, .slice A16 m.f10.f3.length c16] 34)).alloc (.cells #[.int .i64 0, .int .i64 0, .int .i64 0, .int .i64 0, .int .i64 0, .int .i64 0, .int .i64 0, .bool false, .slice none 0 0, .int .i64 0, .int .i64 0, .int .i64 0, .slice none 0 0, .int .i64 0, .int .i64 0, .int .i64 0, .slice none 0 0] 34)).alloc (.cells #[.int .i64 m.f0, .int .i64 m.f1, .int .i64 m.f2, .int .i64 0, .int .i64 0, .int .i64 0, .int .i64 0, .bool false, .slice none 0 0, .int .i64 0, .int .i64 0, .int .i64 0, .slice none 0 0, .int .i64 0, .int .i64 0, .int .i64 0, .slice none 0 0] 34)) = w0 := ⟨_, rfl⟩
 obtain ⟨g, hg⟩ : ∃ g, w.heap.size = g := ⟨_, rfl⟩
 have HG := Lib.hid hg
 rw [hw] at HT0 ⊢
 rw [hg] at HT0 ⊢
 clear hw hg
 obtain ⟨a0, a1, a2, a3, a4, a5, a6, a7, a8, a9, a10, a11, a12, a13, a14, a15, a16⟩ := MsBox.cell HT0.out.h.now
 have b3 : w0.cell? ⟨g + 1 + 1, 3, none⟩ = some (.int .i64 0) := (blk_cell HT0.out.y 3).trans rfl
 have z3 : w0.frozen? ⟨g + 1 + 1, 3, none⟩ = false := blk_frozen HT0.out.y 3
 have b7 : w0.cell? ⟨g + 1 + 1, 7, none⟩ = some (.bool false) := (blk_cell HT0.out.y 7).trans rfl
 have z7 : w0.frozen? ⟨g + 1 + 1, 7, none⟩ = false := blk_frozen HT0.out.y 7
 have hne : g + 1 + 1 ≠ g := by omega
 have hne2 : g ≠ g + 1 + 1 := by omega
 go_upto_region 24 with fail
 have hT : Bx w (g + 1 + 1) (g + 1) 34 #[.int .i64 0, .int .i64 0, .int .i64 0, .int .i64 0, .int .i64 0, .int .i64 0, .int .i64 0, .bool false, .slice none 0 0, .int .i64 0, .int .i64 0, .int .i64 0, .slice none 0 0, .int .i64 0, .int .i64 0, .int .i64 0, .slice none 0 0] #[.int .i64 m.f0, .int .i64 m.f1, .int .i64 m.f2, .int .i64 m.f3, .int .i64 0, .int .i64 0, .int .i64 0, .bool m.f7, .slice none 0 0, .int .i64 0, .int .i64 0, .int .i64 0, .slice none 0 0, .int .i64 0, .int .i64 0, .int .i64 0, .slice none 0 0] _ _ := ((HT0.out.put 3 (.int .i64 m.f3)).put 7 (.bool m.f7))
 have HT1 := Lib.hid hT
 clear hT
 obtain ⟨w1, hw⟩ : ∃ w1, ((w0.setCell ⟨g + 1 + 1, 3, none⟩ (.int .i64 m.f3)).setCell ⟨g + 1 + 1, 7, none⟩ (.bool m.f7)) = w1 := ⟨_, rfl⟩
 rw [hw] at HT1 ⊢
 clear hw
 refine wp_region_list ?_
 refine wpList_load_row rfl 34 (.tmp 4) rfl (g + 1 + 1) rfl 34 #[.int .i64 m.f0, .int .i64 m.f1, .int .i64 m.f2, .int .i64 m.f3, .int .i64 0, .int .i64 0, .int .i64 0, .bool m.f7, .slice none 0 0, .int .i64 0, .int .i64 0, .int .i64 0, .slice none 0 0, .int .i64 0, .int .i64 0, .int .i64 0, .slice none 0 0] (0, 0) _ HT1.out.y Tryz.underlying34 rfl (by kernel_rfl) ?_
 refine wpList_store_row rfl 34 (.tmp 2) (.tmp 61) rfl (g + 1) #[.int .i64 m.f0, .int .i64 m.f1, .int .i64 m.f2, .int .i64 m.f3, .int .i64 0, .int .i64 0, .int .i64 0, .bool m.f7, .slice none 0 0, .int .i64 0, .int .i64 0, .int .i64 0, .slice none 0 0, .int .i64 0, .int .i64 0, .int .i64 0, .slice none 0 0] rfl rfl 34 #[.int .i64 0, .int .i64 0, .int .i64 0, .int .i64 0, .int .i64 0, .int .i64 0, .int .i64 0, .bool false, .slice none 0 0, .int .i64 0, .int .i64 0, .int .i64 0, .slice none 0 0, .int .i64 0, .int .i64 0, .int .i64 0, .slice none 0 0] HT1.out.g0 (by kernel_rfl) rfl (by simp [Value.oneCell']) ?_
 have HD := Lib.hid (HT1.out.fin (cs' := #[.int .i64 m.f0, .int .i64 m.f1, .int .i64 m.f2, .int .i64 m.f3, .int .i64 0, .int .i64 0, .int .i64 0, .bool m.f7, .slice none 0 0, .int .i64 0, .int .i64 0, .int .i64 0, .slice none 0 0, .int .i64 0, .int .i64 0, .int .i64 0, .slice none 0 0]))
 obtain ⟨W, hW⟩ : ∃ W, w1.setRow (g + 1) #[.int .i64 m.f0, .int .i64 m.f1, .int .i64 m.f2, .int .i64 m.f3, .int .i64 0, .int .i64 0, .int .i64 0, .bool m.f7, .slice none 0 0, .int .i64 0, .int .i64 0, .int .i64 0, .slice none 0 0, .int .i64 0, .int .i64 0, .int .i64 0, .slice none 0 0] = W := ⟨_, rfl⟩
 rw [hW] at HD ⊢
 clear hW
 go_wp2_with fail
 refine bodyPost_ret (results_ct rfl _ _ (g + 1) 34 #[.int .i64 m.f0, .int .i64 m.f1, .int .i64 m.f2, .int .i64 m.f3, .int .i64 0, .int .i64 0, .int .i64 0, .bool m.f7, .slice none 0 0, .int .i64 0, .int .i64 0, .int .i64 0, .slice none 0 0, .int .i64 0, .int .i64 0, .int .i64 0, .slice none 0 0] (0, 0) _ rfl HD.out.1 Tryz.underlying34 rfl (by kernel_rfl)) rfl ?_
 have hik : isKind m.f0 = true := by rw [HK.out]; rfl
 refine ⟨⟨m.f0, m.f1, m.f2, m.f3, 0, 0, 0, m.f7, [], zE, zP⟩, none, none, none, 0, 0, 0, by rw [hik]; rfl, fun _ => by unfold bareM; simp [HK.out], ⟨Nat.le_refl 0, Kd.C_nil _ _, Nat.le_refl 0, Kd.C_nil _ _, Nat.le_refl 0, Kd.C_nil _ _⟩, HD.out.2.2⟩
set_option maxHeartbeats 4000000 in
theorem plain_k3 {w : World} (m : MsgD) {A8 A12 A16 : Option Addr} {c8 c12 c16 : Nat} (hm : MsgC w m A8 c8 A12 c12 A16 c16) (hk : m.f0 = 3) :
  Calls Tryz.prog 68 #[.agg #[.int .i64 m.f0, .int .i64 m.f1, .int .i64 m.f2, .int .i64 m.f3, .int .i64 m.f4, .int .i64 m.f5, .int .i64 m.f6, .bool m.f7, .slice A8 m.f8.length c8, .int .i64 m.f9.f0, .int .i64 m.f9.f1, .int .i64 m.f9.f2, .slice A12 m.f9.f3.length c12, .int .i64 m.f10.f0, .int .i64 m.f10.f1, .int .i64 m.f10.f2, .slice A16 m.f10.f3.length c16]] w fun e w' => BareP w m e w' := by
 have t6 : (m.f0 == 6) = false := by rw [hk]; rfl
 have t1 : (m.f0 == 1) = false := by rw [hk]; rfl
 have t2 : (m.f0 == 2) = false := by rw [hk]; rfl
 have t3 : (m.f0 == 3) = true := by rw [hk]; rfl
 have t4 : (m.f0 == 4) = false := by rw [hk]; rfl
 have t5 : (m.f0 == 5) = false := by rw [hk]; rfl
 have HK := Lib.hid hk
 clear hk
 have HM := Lib.hid hm
 have HT0 := Lib.hid (bare_start w m A8 A12 A16 c8 c12 c16)
 clear hm
 go_enter Tryz.func68, Tryz.ntmps68
 go_upto_region 2 with fail
 obtain ⟨w0, hw⟩ : ∃ w0, (((w.alloc (.cells #[.int .i64 m.f0, .int .i64 m.f1, .int .i64 m.f2, .int .i64 m.f3, .int .i64 m.f4, .int .i64 m.f5, .int .i64 m.f6, .bool m.f7, .slice A8 m.f8.length c8, .int .i64 m.f9.f0, .int .i64 m.f9.f1, .int .i64 m.f9.f2, .slice A12 m.f9.f3.length c12, .int .i64 m.f10.f0, .int .i64 m.f10.f1, .int .i64 m.f10.f2, .slice A16 m.f10.f3.length c16] 34)).alloc (.cells #[.int .i64 0, .int .i64 0, .int .i64 0, .int .i64 0, .int .i64 0, .int .i64 0, .int .i64 0, .bool false, .slice none 0 0, .int .i64 0, .int .i64 0, .int .i64 0, .slice none 0 0, .int .i64 0, .int .i64 0, .int .i64 0, .slice none 0 0] 34)).alloc (.cells #[.int .i64 m.f0, .int .i64 m.f1, .int .i64 m.f2, .int .i64 0, .int .i64 0, .int .i64 0, .int .i64 0, .bool false, .slice none 0 0, .int .i64 0, .int .i64 0, .int .i64 0, .slice none 0 0, .int .i64 0, .int .i64 0, .int .i64 0, .slice none 0 0] 34)) = w0 := ⟨_, rfl⟩
 obtain ⟨g, hg⟩ : ∃ g, w.heap.size = g := ⟨_, rfl⟩
 have HG := Lib.hid hg
 rw [hw] at HT0 ⊢
 rw [hg] at HT0 ⊢
 clear hw hg
 obtain ⟨a0, a1, a2, a3, a4, a5, a6, a7, a8, a9, a10, a11, a12, a13, a14, a15, a16⟩ := MsBox.cell HT0.out.h.now
 have b3 : w0.cell? ⟨g + 1 + 1, 3, none⟩ = some (.int .i64 0) := (blk_cell HT0.out.y 3).trans rfl
 have z3 : w0.frozen? ⟨g + 1 + 1, 3, none⟩ = false := blk_frozen HT0.out.y 3
 have b4 : w0.cell? ⟨g + 1 + 1, 4, none⟩ = some (.int .i64 0) := (blk_cell HT0.out.y 4).trans rfl
 have z4 : w0.frozen? ⟨g + 1 + 1, 4, none⟩ = false := blk_frozen HT0.out.y 4
 have b5 : w0.cell? ⟨g + 1 + 1, 5, none⟩ = some (.int .i64 0) := (blk_cell HT0.out.y 5).trans rfl
 have z5 : w0.frozen? ⟨g + 1 + 1, 5, none⟩ = false := blk_frozen HT0.out.y 5
 have b6 : w0.cell? ⟨g + 1 + 1, 6, none⟩ = some (.int .i64 0) := (blk_cell HT0.out.y 6).trans rfl
 have z6 : w0.frozen? ⟨g + 1 + 1, 6, none⟩ = false := blk_frozen HT0.out.y 6
 have b8 : w0.cell? ⟨g + 1 + 1, 8, none⟩ = some (.slice none 0 0) := (blk_cell HT0.out.y 8).trans rfl
 have z8 : w0.frozen? ⟨g + 1 + 1, 8, none⟩ = false := blk_frozen HT0.out.y 8
 have hne : g + 1 + 1 ≠ g := by omega
 have hne2 : g ≠ g + 1 + 1 := by omega
 go_upto_region 24 with fail
 have hT : Bx w (g + 1 + 1) (g + 1) 34 #[.int .i64 0, .int .i64 0, .int .i64 0, .int .i64 0, .int .i64 0, .int .i64 0, .int .i64 0, .bool false, .slice none 0 0, .int .i64 0, .int .i64 0, .int .i64 0, .slice none 0 0, .int .i64 0, .int .i64 0, .int .i64 0, .slice none 0 0] #[.int .i64 m.f0, .int .i64 m.f1, .int .i64 m.f2, .int .i64 m.f3, .int .i64 m.f4, .int .i64 m.f5, .int .i64 m.f6, .bool false, .slice A8 m.f8.length c8, .int .i64 0, .int .i64 0, .int .i64 0, .slice none 0 0, .int .i64 0, .int .i64 0, .int .i64 0, .slice none 0 0] _ _ := (((((HT0.out.put 3 (.int .i64 m.f3)).put 4 (.int .i64 m.f4)).put 5 (.int .i64 m.f5)).put 6 (.int .i64 m.f6)).put 8 (.slice A8 m.f8.length c8))
 have HT1 := Lib.hid hT
 clear hT
 obtain ⟨w1, hw⟩ : ∃ w1, (((((w0.setCell ⟨g + 1 + 1, 3, none⟩ (.int .i64 m.f3)).setCell ⟨g + 1 + 1, 4, none⟩ (.int .i64 m.f4)).setCell ⟨g + 1 + 1, 5, none⟩ (.int .i64 m.f5)).setCell ⟨g + 1 + 1, 6, none⟩ (.int .i64 m.f6)).setCell ⟨g + 1 + 1, 8, none⟩ (.slice A8 m.f8.length c8)) = w1 := ⟨_, rfl⟩
 rw [hw] at HT1 ⊢
 clear hw
 refine wp_region_list ?_
 refine wpList_load_row rfl 34 (.tmp 4) rfl (g + 1 + 1) rfl 34 #[.int .i64 m.f0, .int .i64 m.f1, .int .i64 m.f2, .int .i64 m.f3, .int .i64 m.f4, .int .i64 m.f5, .int .i64 m.f6, .bool false, .slice A8 m.f8.length c8, .int .i64 0, .int .i64 0, .int .i64 0, .slice none 0 0, .int .i64 0, .int .i64 0, .int .i64 0, .slice none 0 0] (0, 0) _ HT1.out.y Tryz.underlying34 rfl (by kernel_rfl) ?_
 refine wpList_store_row rfl 34 (.tmp 2) (.tmp 61) rfl (g + 1) #[.int .i64 m.f0, .int .i64 m.f1, .int .i64 m.f2, .int .i64 m.f3, .int .i64 m.f4, .int .i64 m.f5, .int .i64 m.f6, .bool false, .slice A8 m.f8.length c8, .int .i64 0, .int .i64 0, .int .i64 0, .slice none 0 0, .int .i64 0, .int .i64 0, .int .i64 0, .slice none 0 0] rfl rfl 34 #[.int .i64 0, .int .i64 0, .int .i64 0, .int .i64 0, .int .i64 0, .int .i64 0, .int .i64 0, .bool false, .slice none 0 0, .int .i64 0, .int .i64 0, .int .i64 0, .slice none 0 0, .int .i64 0, .int .i64 0, .int .i64 0, .slice none 0 0] HT1.out.g0 (by kernel_rfl) rfl (by simp [Value.oneCell']) ?_
 have HD := Lib.hid (HT1.out.fin (cs' := #[.int .i64 m.f0, .int .i64 m.f1, .int .i64 m.f2, .int .i64 m.f3, .int .i64 m.f4, .int .i64 m.f5, .int .i64 m.f6, .bool false, .slice A8 m.f8.length c8, .int .i64 0, .int .i64 0, .int .i64 0, .slice none 0 0, .int .i64 0, .int .i64 0, .int .i64 0, .slice none 0 0]))
 obtain ⟨W, hW⟩ : ∃ W, w1.setRow (g + 1) #[.int .i64 m.f0, .int .i64 m.f1, .int .i64 m.f2, .int .i64 m.f3, .int .i64 m.f4, .int .i64 m.f5, .int .i64 m.f6, .bool false, .slice A8 m.f8.length c8, .int .i64 0, .int .i64 0, .int .i64 0, .slice none 0 0, .int .i64 0, .int .i64 0, .int .i64 0, .slice none 0 0] = W := ⟨_, rfl⟩
 rw [hW] at HD ⊢
 clear hW
 go_wp2_with fail
 refine bodyPost_ret (results_ct rfl _ _ (g + 1) 34 #[.int .i64 m.f0, .int .i64 m.f1, .int .i64 m.f2, .int .i64 m.f3, .int .i64 m.f4, .int .i64 m.f5, .int .i64 m.f6, .bool false, .slice A8 m.f8.length c8, .int .i64 0, .int .i64 0, .int .i64 0, .slice none 0 0, .int .i64 0, .int .i64 0, .int .i64 0, .slice none 0 0] (0, 0) _ rfl HD.out.1 Tryz.underlying34 rfl (by kernel_rfl)) rfl ?_
 have hik : isKind m.f0 = true := by rw [HK.out]; rfl
 refine ⟨⟨m.f0, m.f1, m.f2, m.f3, m.f4, m.f5, m.f6, false, m.f8, zE, zP⟩, A8, none, none, c8, 0, 0, by rw [hik]; rfl, fun _ => by unfold bareM; simp [HK.out], ⟨HM.out.l8, Kd.C_below HM.out.g8 HD.out.2.2, Nat.le_refl 0, Kd.C_nil _ _, Nat.le_refl 0, Kd.C_nil _ _⟩, HD.out.2.2⟩
set_option maxHeartbeats 4000000 in
theorem plain_k4 {w : World} (m : MsgD) {A8 A12 A16 : Option Addr} {c8 c12 c16 : Nat} (hm : MsgC w m A8 c8 A12 c12 A16 c16) (hk : m.f0 = 4) :
  Calls Tryz.prog 68 #[.agg #[.int .i64 m.f0, .int .i64 m.f1, .int .i64 m.f2, .int .i64 m.f3, .int .i64 m.f4, .int .i64 m.f5, .int .i64 m.f6, .bool m.f7, .slice A8 m.f8.length c8, .int .i64 m.f9.f0, .int .i64 m.f9.f1, .int .i64 m.f9.f2, .slice A12 m.f9.f3.length c12, .int .i64 m.f10.f0, .int .i64 m.f10.f1, .int .i64 m.f10.f2, .slice A16 m.f10.f3.length c16]] w fun e w' => BareP w m e w' := by
 have t6 : (m.f0 == 6) = false := by rw [hk]; rfl
 have t1 : (m.f0 == 1) = false := by rw [hk]; rfl
 have t2 : (m.f0 == 2) = false := by rw [hk]; rfl
 have t3 : (m.f0 == 3) = false := by rw [hk]; rfl
 have t4 : (m.f0 == 4) = true := by rw [hk]; rfl
 have t5 : (m.f0 == 5) = false := by rw [hk]; rfl
 have HK := Lib.hid hk
 clear hk
 have HM := Lib.hid hm
 have HT0 := Lib.hid (bare_start w m A8 A12 A16 c8 c12 c16)
 clear hm
 go_enter Tryz.func68, Tryz.ntmps68
 go_upto_region 2 with fail
 obtain ⟨w0, hw⟩ : ∃ w0, (((w.alloc (.cells #[.int .i64 m.f0, .int .i64 m.f1, .int .i64 m.f2, .int .i64 m.f3, .int .i64 m.f4, .int .i64 m.f5, .int .i64 m.f6, .bool m.f7, .slice A8 m.f8.length c8, .int .i64 m.f9.f0, .int .i64 m.f9.f1, .int .i64 m.f9.f2, .slice A12 m.f9.f3.length c12, .int .i64 m.f10.f0, .int .i64 m.f10.f1, .int .i64 m.f10.f2, .slice A16 m.f10.f3.length c16] 34)).alloc (.cells #[.int .i64 0, .int .i64 0, .int .i64 0, .int .i64 0, .int .i64 0, .int .i64 0, .int .i64 0, .bool false, .slice none 0 0, .int .i64 0, .int .i64 0, .int .i64 0, .slice none 0 0, .int .i64 0, .int .i64 0, .int .i64 0, .slice none 0 0] 34)).alloc (.cells #[.int .i64 m.f0, .int .i64 m.f1, .int .i64 m.f2, .int .i64 0, .int .i64 0, .int .i64 0, .int .i64 0, .bool false, .slice none 0 0, .int .i64 0, .int .i64 0, .int .i64 0, .slice none 0 0, .int .i64 0, .int .i64 0, .int .i64 0, .slice none 0 0] 34)) = w0 := ⟨_, rfl⟩
 obtain ⟨g, hg⟩ : ∃ g, w.heap.size = g := ⟨_, rfl⟩
 have HG := Lib.hid hg
 rw [hw] at HT0 ⊢
 rw [hg] at HT0 ⊢
 clear hw hg
 obtain ⟨a0, a1, a2, a3, a4, a5, a6, a7, a8, a9, a10, a11, a12, a13, a14, a15, a16⟩ := MsBox.cell HT0.out.h.now
 have b3 : w0.cell? ⟨g + 1 + 1, 3, none⟩ = some (.int .i64 0) := (blk_cell HT0.out.y 3).trans rfl
 have z3 : w0.frozen? ⟨g + 1 + 1, 3, none⟩ = false := blk_frozen HT0.out.y 3
 have b7 : w0.cell? ⟨g + 1 + 1, 7, none⟩ = some (.bool false) := (blk_cell HT0.out.y 7).trans rfl
 have z7 : w0.frozen? ⟨g + 1 + 1, 7, none⟩ = false := blk_frozen HT0.out.y 7
 have b4 : w0.cell? ⟨g + 1 + 1, 4, none⟩ = some (.int .i64 0) := (blk_cell HT0.out.y 4).trans rfl
 have z4 : w0.frozen? ⟨g + 1 + 1, 4, none⟩ = false := blk_frozen HT0.out.y 4
 have hne : g + 1 + 1 ≠ g := by omega
 have hne2 : g ≠ g + 1 + 1 := by omega
 go_upto_region 24 with fail
 have hT : Bx w (g + 1 + 1) (g + 1) 34 #[.int .i64 0, .int .i64 0, .int .i64 0, .int .i64 0, .int .i64 0, .int .i64 0, .int .i64 0, .bool false, .slice none 0 0, .int .i64 0, .int .i64 0, .int .i64 0, .slice none 0 0, .int .i64 0, .int .i64 0, .int .i64 0, .slice none 0 0] #[.int .i64 m.f0, .int .i64 m.f1, .int .i64 m.f2, .int .i64 m.f3, .int .i64 m.f4, .int .i64 0, .int .i64 0, .bool m.f7, .slice none 0 0, .int .i64 0, .int .i64 0, .int .i64 0, .slice none 0 0, .int .i64 0, .int .i64 0, .int .i64 0, .slice none 0 0] _ _ := (((HT0.out.put 3 (.int .i64 m.f3)).put 7 (.bool m.f7)).put 4 (.int .i64 m.f4))
 have HT1 := Lib.hid hT
 clear hT
 obtain ⟨w1, hw⟩ : ∃ w1, (((w0.setCell ⟨g + 1 + 1, 3, none⟩ (.int .i64 m.f3)).setCell ⟨g + 1 + 1, 7, none⟩ (.bool m.f7)).setCell ⟨g + 1 + 1, 4, none⟩ (.int .i64 m.f4)) = w1 := ⟨_, rfl⟩
 rw [hw] at HT1 ⊢
 clear hw
 refine wp_region_list ?_
 refine wpList_load_row rfl 34 (.tmp 4) rfl (g + 1 + 1) rfl 34 #[.int .i64 m.f0, .int .i64 m.f1, .int .i64 m.f2, .int .i64 m.f3, .int .i64 m.f4, .int .i64 0, .int .i64 0, .bool m.f7, .slice none 0 0, .int .i64 0, .int .i64 0, .int .i64 0, .slice none 0 0, .int .i64 0, .int .i64 0, .int .i64 0, .slice none 0 0] (0, 0) _ HT1.out.y Tryz.underlying34 rfl (by kernel_rfl) ?_
 refine wpList_store_row rfl 34 (.tmp 2) (.tmp 61) rfl (g + 1) #[.int .i64 m.f0, .int .i64 m.f1, .int .i64 m.f2, .int .i64 m.f3, .int .i64 m.f4, .int .i64 0, .int .i64 0, .bool m.f7, .slice none 0 0, .int .i64 0, .int .i64 0, .int .i64 0, .slice none 0 0, .int .i64 0, .int .i64 0, .int .i64 0, .slice none 0 0] rfl rfl 34 #[.int .i64 0, .int .i64 0, .int .i64 0, .int .i64 0, .int .i64 0, .int .i64 0, .int .i64 0, .bool false, .slice none 0 0, .int .i64 0, .int .i64 0, .int .i64 0, .slice none 0 0, .int .i64 0, .int .i64 0, .int .i64 0, .slice none 0 0] HT1.out.g0 (by kernel_rfl) rfl (by simp [Value.oneCell']) ?_
 have HD := Lib.hid (HT1.out.fin (cs' := #[.int .i64 m.f0, .int .i64 m.f1, .int .i64 m.f2, .int .i64 m.f3, .int .i64 m.f4, .int .i64 0, .int .i64 0, .bool m.f7, .slice none 0 0, .int .i64 0, .int .i64 0, .int .i64 0, .slice none 0 0, .int .i64 0, .int .i64 0, .int .i64 0, .slice none 0 0]))
 obtain ⟨W, hW⟩ : ∃ W, w1.setRow (g + 1) #[.int .i64 m.f0, .int .i64 m.f1, .int .i64 m.f2, .int .i64 m.f3, .int .i64 m.f4, .int .i64 0, .int .i64 0, .bool m.f7, .slice none 0 0, .int .i64 0, .int .i64 0, .int .i64 0, .slice none 0 0, .int .i64 0, .int .i64 0, .int .i64 0, .slice none 0 0] = W := ⟨_, rfl⟩
 rw [hW] at HD ⊢
 clear hW
 go_wp2_with fail
 refine bodyPost_ret (results_ct rfl _ _ (g + 1) 34 #[.int .i64 m.f0, .int .i64 m.f1, .int .i64 m.f2, .int .i64 m.f3, .int .i64 m.f4, .int .i64 0, .int .i64 0, .bool m.f7, .slice none 0 0, .int .i64 0, .int .i64 0, .int .i64 0, .slice none 0 0, .int .i64 0, .int .i64 0, .int .i64 0, .slice none 0 0] (0, 0) _ rfl HD.out.1 Tryz.underlying34 rfl (by kernel_rfl)) rfl ?_
 have hik : isKind m.f0 = true := by rw [HK.out]; rfl
 refine ⟨⟨m.f0, m.f1, m.f2, m.f3, m.f4, 0, 0, m.f7, [], zE, zP⟩, none, none, none, 0, 0, 0, by rw [hik]; rfl, fun _ => by unfold bareM; simp [HK.out], ⟨Nat.le_refl 0, Kd.C_nil _ _, Nat.le_refl 0, Kd.C_nil _ _, Nat.le_refl 0, Kd.C_nil _ _⟩, HD.out.2.2⟩
set_option maxHeartbeats 4000000 in
theorem plain_k5 {w : World} (m : MsgD) {A8 A12 A16 : Option Addr} {c8 c12 c16 : Nat} (hm : MsgC w m A8 c8 A12 c12 A16 c16) (hk : m.f0 = 5) :
  Calls Tryz.prog 68 #[.agg #[.int .i64 m.f0, .int .i64 m.f1, .int .i64 m.f2, .int .i64 m.f3, .int .i64 m.f4, .int .i64 m.f5, .int .i64 m.f6, .bool m.f7, .slice A8 m.f8.length c8, .int .i64 m.f9.f0, .int .i64 m.f9.f1, .int .i64 m.f9.f2, .slice A12 m.f9.f3.length c12, .int .i64 m.f10.f0, .int .i64 m.f10.f1, .int .i64 m.f10.f2, .slice A16 m.f10.f3.length c16]] w fun e w' => BareP w m e w' := by
 have t6 : (m.f0 == 6) = false := by rw [hk]; rfl
 have t1 : (m.f0 == 1) = false := by rw [hk]; rfl
 have t2 : (m.f0 == 2) = false := by rw [hk]; rfl
 have t3 : (m.f0 == 3) = false := by rw [hk]; rfl
 have t4 : (m.f0 == 4) = false := by rw [hk]; rfl
 have t5 : (m.f0 == 5) = true := by rw [hk]; rfl
 have HK := Lib.hid hk
 clear hk
 have HM := Lib.hid hm
 have HT0 := Lib.hid (bare_start w m A8 A12 A16 c8 c12 c16)
 clear hm
 go_enter Tryz.func68, Tryz.ntmps68
 go_upto_region 2 with fail
 obtain ⟨w0, hw⟩ : ∃ w0, (((w.alloc (.cells #[.int .i64 m.f0, .int .i64 m.f1, .int .i64 m.f2, .int .i64 m.f3, .int .i64 m.f4, .int .i64 m.f5, .int .i64 m.f6, .bool m.f7, .slice A8 m.f8.length c8, .int .i64 m.f9.f0, .int .i64 m.f9.f1, .int .i64 m.f9.f2, .slice A12 m.f9.f3.length c12, .int .i64 m.f10.f0, .int .i64 m.f10.f1, .int .i64 m.f10.f2, .slice A16 m.f10.f3.length c16] 34)).alloc (.cells #[.int .i64 0, .int .i64 0, .int .i64 0, .int .i64 0, .int .i64 0, .int .i64 0, .int .i64 0, .bool false, .slice none 0 0, .int .i64 0, .int .i64 0, .int .i64 0, .slice none 0 0, .int .i64 0, .int .i64 0, .int .i64 0, .slice none 0 0] 34)).alloc (.cells #[.int .i64 m.f0, .int .i64 m.f1, .int .i64 m.f2, .int .i64 0, .int .i64 0, .int .i64 0, .int .i64 0, .bool false, .slice none 0 0, .int .i64 0, .int .i64 0, .int .i64 0, .slice none 0 0, .int .i64 0, .int .i64 0, .int .i64 0, .slice none 0 0] 34)) = w0 := ⟨_, rfl⟩
 obtain ⟨g, hg⟩ : ∃ g, w.heap.size = g := ⟨_, rfl⟩
 have HG := Lib.hid hg
 rw [hw] at HT0 ⊢
 rw [hg] at HT0 ⊢
 clear hw hg
 obtain ⟨a0, a1, a2, a3, a4, a5, a6, a7, a8, a9, a10, a11, a12, a13, a14, a15, a16⟩ := MsBox.cell HT0.out.h.now
 have b3 : w0.cell? ⟨g + 1 + 1, 3, none⟩ = some (.int .i64 0) := (blk_cell HT0.out.y 3).trans rfl
 have z3 : w0.frozen? ⟨g + 1 + 1, 3, none⟩ = false := blk_frozen HT0.out.y 3
 have b4 : w0.cell? ⟨g + 1 + 1, 4, none⟩ = some (.int .i64 0) := (blk_cell HT0.out.y 4).trans rfl
 have z4 : w0.frozen? ⟨g + 1 + 1, 4, none⟩ = false := blk_frozen HT0.out.y 4
 have b5 : w0.cell? ⟨g + 1 + 1, 5, none⟩ = some (.int .i64 0) := (blk_cell HT0.out.y 5).trans rfl
 have z5 : w0.frozen? ⟨g + 1 + 1, 5, none⟩ = false := blk_frozen HT0.out.y 5
 have b13 : w0.cell? ⟨g + 1 + 1, 13, none⟩ = some (.int .i64 0) := (blk_cell HT0.out.y 13).trans rfl
 have z13 : w0.frozen? ⟨g + 1 + 1, 13, none⟩ = false := blk_frozen HT0.out.y 13
 have b14 : w0.cell? ⟨g + 1 + 1, 14, none⟩ = some (.int .i64 0) := (blk_cell HT0.out.y 14).trans rfl
 have z14 : w0.frozen? ⟨g + 1 + 1, 14, none⟩ = false := blk_frozen HT0.out.y 14
 have b15 : w0.cell? ⟨g + 1 + 1, 15, none⟩ = some (.int .i64 0) := (blk_cell HT0.out.y 15).trans rfl
 have z15 : w0.frozen? ⟨g + 1 + 1, 15, none⟩ = false := blk_frozen HT0.out.y 15
 have b16 : w0.cell? ⟨g + 1 + 1, 16, none⟩ = some (.slice none 0 0) := (blk_cell HT0.out.y 16).trans rfl
 have z16 : w0.frozen? ⟨g + 1 + 1, 16, none⟩ = false := blk_frozen HT0.out.y 16
 have hne : g + 1 + 1 ≠ g := by omega
 have hne2 : g ≠ g + 1 + 1 := by omega
 go_upto_region 24 with fail
 have hT : Bx w (g + 1 + 1) (g + 1) 34 #[.int .i64 0, .int .i64 0, .int .i64 0, .int .i64 0, .int .i64 0, .int .i64 0, .int .i64 0, .bool false, .slice none 0 0, .int .i64 0, .int .i64 0, .int .i64 0, .slice none 0 0, .int .i64 0, .int .i64 0, .int .i64 0, .slice none 0 0] #[.int .i64 m.f0, .int .i64 m.f1, .int .i64 m.f2, .int .i64 m.f3, .int .i64 m.f4, .int .i64 m.f5, .int .i64 0, .bool false, .slice none 0 0, .int .i64 0, .int .i64 0, .int .i64 0, .slice none 0 0, .int .i64 m.f10.f0, .int .i64 m.f10.f1, .int .i64 m.f10.f2, .slice A16 m.f10.f3.length c16] _ _ := (((((((HT0.out.put 3 (.int .i64 m.f3)).put 4 (.int .i64 m.f4)).put 5 (.int .i64 m.f5)).put 13 (.int .i64 m.f10.f0)).put 14 (.int .i64 m.f10.f1)).put 15 (.int .i64 m.f10.f2)).put 16 (.slice A16 m.f10.f3.length c16))
 have HT1 := Lib.hid hT
 clear hT
 obtain ⟨w1, hw⟩ : ∃ w1, (((((((w0.setCell ⟨g + 1 + 1, 3, none⟩ (.int .i64 m.f3)).setCell ⟨g + 1 + 1, 4, none⟩ (.int .i64 m.f4)).setCell ⟨g + 1 + 1, 5, none⟩ (.int .i64 m.f5)).setCell ⟨g + 1 + 1, 13, none⟩ (.int .i64 m.f10.f0)).setCell ⟨g + 1 + 1, 14, none⟩ (.int .i64 m.f10.f1)).setCell ⟨g + 1 + 1, 15, none⟩ (.int .i64 m.f10.f2)).setCell ⟨g + 1 + 1, 16, none⟩ (.slice A16 m.f10.f3.length c16)) = w1 := ⟨_, rfl⟩
 rw [hw] at HT1 ⊢
 clear hw
 refine wp_region_list ?_
 refine wpList_load_row rfl 34 (.tmp 4) rfl (g + 1 + 1) rfl 34 #[.int .i64 m.f0, .int .i64 m.f1, .int .i64 m.f2, .int .i64 m.f3, .int .i64 m.f4, .int .i64 m.f5, .int .i64 0, .bool false, .slice none 0 0, .int .i64 0, .int .i64 0, .int .i64 0, .slice none 0 0, .int .i64 m.f10.f0, .int .i64 m.f10.f1, .int .i64 m.f10.f2, .slice A16 m.f10.f3.length c16] (0, 0) _ HT1.out.y Tryz.underlying34 rfl (by kernel_rfl) ?_
 refine wpList_store_row rfl 34 (.tmp 2) (.tmp 61) rfl (g + 1) #[.int .i64 m.f0, .int .i64 m.f1, .int .i64 m.f2, .int .i64 m.f3, .int .i64 m.f4, .int .i64 m.f5, .int .i64 0, .bool false, .slice none 0 0, .int .i64 0, .int .i64 0, .int .i64 0, .slice none 0 0, .int .i64 m.f10.f0, .int .i64 m.f10.f1, .int .i64 m.f10.f2, .slice A16 m.f10.f3.length c16] rfl rfl 34 #[.int .i64 0, .int .i64 0, .int .i64 0, .int .i64 0, .int .i64 0, .int .i64 0, .int .i64 0, .bool false, .slice none 0 0, .int .i64 0, .int .i64 0, .int .i64 0, .slice none 0 0, .int .i64 0, .int .i64 0, .int .i64 0, .slice none 0 0] HT1.out.g0 (by kernel_rfl) rfl (by simp [Value.oneCell']) ?_
 have HD := Lib.hid (HT1.out.fin (cs' := #[.int .i64 m.f0, .int .i64 m.f1, .int .i64 m.f2, .int .i64 m.f3, .int .i64 m.f4, .int .i64 m.f5, .int .i64 0, .bool false, .slice none 0 0, .int .i64 0, .int .i64 0, .int .i64 0, .slice none 0 0, .int .i64 m.f10.f0, .int .i64 m.f10.f1, .int .i64 m.f10.f2, .slice A16 m.f10.f3.length c16]))
 obtain ⟨W, hW⟩ : ∃ W, w1.setRow (g + 1) #[.int .i64 m.f0, .int .i64 m.f1, .int .i64 m.f2, .int .i64 m.f3, .int .i64 m.f4, .int .i64 m.f5, .int .i64 0, .bool false, .slice none 0 0, .int .i64 0, .int .i64 0, .int .i64 0, .slice none 0 0, .int .i64 m.f10.f0, .int .i64 m.f10.f1, .int .i64 m.f10.f2, .slice A16 m.f10.f3.length c16] = W := ⟨_, rfl⟩
 rw [hW] at HD ⊢
 clear hW
 go_wp2_with fail
 refine bodyPost_ret (results_ct rfl _ _ (g + 1) 34 #[.int .i64 m.f0, .int .i64 m.f1, .int .i64 m.f2, .int .i64 m.f3, .int .i64 m.f4, .int .i64 m.f5, .int .i64 0, .bool false, .slice none 0 0, .int .i64 0, .int .i64 0, .int .i64 0, .slice none 0 0, .int .i64 m.f10.f0, .int .i64 m.f10.f1, .int .i64 m.f10.f2, .slice A16 m.f10.f3.length c16] (0, 0) _ rfl HD.out.1 Tryz.underlying34 rfl (by kernel_rfl)) rfl ?_
 have hik : isKind m.f0 = true := by rw [HK.out]; rfl
 refine ⟨⟨m.f0, m.f1, m.f2, m.f3, m.f4, m.f5, 0, false, [], zE, m.f10⟩, none, none, A16, 0, 0, c16, by rw [hik]; rfl, fun _ => by unfold bareM; simp [HK.out], ⟨Nat.le_refl 0, Kd.C_nil _ _, Nat.le_refl 0, Kd.C_nil _ _, HM.out.l16, Kd.C_below HM.out.g16 HD.out.2.2⟩, HD.out.2.2⟩
set_option maxHeartbeats 4000000 in
theorem plain_k0 {w : World} (m : MsgD) {A8 A12 A16 : Option Addr} {c8 c12 c16 : Nat} (hm : MsgC w m A8 c8 A12 c12 A16 c16) (hk : isKind m.f0 = false) :
  Calls Tryz.prog 68 #[.agg #[.int .i64 m.f0, .int .i64 m.f1, .int .i64 m.f2, .int .i64 m.f3, .int .i64 m.f4, .int .i64 m.f5, .int .i64 m.f6, .bool m.f7, .slice A8 m.f8.length c8, .int .i64 m.f9.f0, .int .i64 m.f9.f1, .int .i64 m.f9.f2, .slice A12 m.f9.f3.length c12, .int .i64 m.f10.f0, .int .i64 m.f10.f1, .int .i64 m.f10.f2, .slice A16 m.f10.f3.length c16]] w fun e w' => BareP w m e w' := by
 have t6 : (m.f0 == 6) = false := by rw [beq_eq_false_iff_ne]; intro h; rw [h] at hk; cases hk
 have t1 : (m.f0 == 1) = false := by rw [beq_eq_false_iff_ne]; intro h; rw [h] at hk; cases hk
 have t2 : (m.f0 == 2) = false := by rw [beq_eq_false_iff_ne]; intro h; rw [h] at hk; cases hk
 have t3 : (m.f0 == 3) = false := by rw [beq_eq_false_iff_ne]; intro h; rw [h] at hk; cases hk
 have t4 : (m.f0 == 4) = false := by rw [beq_eq_false_iff_ne]; intro h; rw [h] at hk; cases hk
 have t5 : (m.f0 == 5) = false := by rw [beq_eq_false_iff_ne]; intro h; rw [h] at hk; cases hk
 have HK := Lib.hid hk
 clear hk
 have HM := Lib.hid hm
 have HT0 := Lib.hid (bare_start w m A8 A12 A16 c8 c12 c16)
 clear hm
 go_enter Tryz.func68, Tryz.ntmps68
 go_upto_region 2 with fail
 obtain ⟨w0, hw⟩ : ∃ w0, (((w.alloc (.cells #[.int .i64 m.f0, .int .i64 m.f1, .int .i64 m.f2, .int .i64 m.f3, .int .i64 m.f4, .int .i64 m.f5, .int .i64 m.f6, .bool m.f7, .slice A8 m.f8.length c8, .int .i64 m.f9.f0, .int .i64 m.f9.f1, .int .i64 m.f9.f2, .slice A12 m.f9.f3.length c12, .int .i64 m.f10.f0, .int .i64 m.f10.f1, .int .i64 m.f10.f2, .slice A16 m.f10.f3.length c16] 34)).alloc (.cells #[.int .i64 0, .int .i64 0, .int .i64 0, .int .i64 0, .int .i64 0, .int .i64 0, .int .i64 0, .bool false, .slice none 0 0, .int .i64 0, .int .i64 0, .int .i64 0, .slice none 0 0, .int .i64 0, .int .i64 0, .int .i64 0, .slice none 0 0] 34)).alloc (.cells #[.int .i64 m.f0, .int .i64 m.f1, .int .i64 m.f2, .int .i64 0, .int .i64 0, .int .i64 0, .int .i64 0, .bool false, .slice none 0 0, .int .i64 0, .int .i64 0, .int .i64 0, .slice none 0 0, .int .i64 0, .int .i64 0, .int .i64 0, .slice none 0 0] 34)) = w0 := ⟨_, rfl⟩
 obtain ⟨g, hg⟩ : ∃ g, w.heap.size = g := ⟨_, rfl⟩
 have HG := Lib.hid hg
 rw [hw] at HT0 ⊢
 rw [hg] at HT0 ⊢
 clear hw hg
 obtain ⟨a0, a1, a2, a3, a4, a5, a6, a7, a8, a9, a10, a11, a12, a13, a14, a15, a16⟩ := MsBox.cell HT0.out.h.now
 have b3 : w0.cell? ⟨g + 1 + 1, 3, none⟩ = some (.int .i64 0) := (blk_cell HT0.out.y 3).trans rfl
 have z3 : w0.frozen? ⟨g + 1 + 1, 3, none⟩ = false := blk_frozen HT0.out.y 3
 have hne : g + 1 + 1 ≠ g := by omega
 have hne2 : g ≠ g + 1 + 1 := by omega
 go_upto_region 7 with fail
 have HT1 := Lib.hid (HT0.out.set 3 (.int .i64 m.f3) #[.int .i64 m.f0, .int .i64 m.f1, .int .i64 m.f2, .int .i64 m.f3, .int .i64 0, .int .i64 0, .int .i64 0, .bool false, .slice none 0 0, .int .i64 0, .int .i64 0, .int .i64 0, .slice none 0 0, .int .i64 0, .int .i64 0, .int .i64 0, .slice none 0 0] (blk_put HT0.out.y 3 _ rfl))
 obtain ⟨w1, hw⟩ : ∃ w1, w0.setCell ⟨g + 1 + 1, 3, none⟩ (.int .i64 m.f3) = w1 := ⟨_, rfl⟩
 rw [hw] at HT1 ⊢
 clear hw
 refine wp_region_list ?_
 refine wpList_load_row rfl 34 (.tmp 4) rfl (g + 1 + 1) rfl 34 #[.int .i64 m.f0, .int .i64 m.f1, .int .i64 m.f2, .int .i64 m.f3, .int .i64 0, .int .i64 0, .int .i64 0, .bool false, .slice none 0 0, .int .i64 0, .int .i64 0, .int .i64 0, .slice none 0 0, .int .i64 0, .int .i64 0, .int .i64 0, .slice none 0 0] (0, 0) _ HT1.out.y Tryz.underlying34 rfl (by kernel_rfl) ?_
 refine wpList_store_row rfl 34 (.tmp 2) (.tmp 24) rfl (g + 1) #[.int .i64 m.f0, .int .i64 m.f1, .int .i64 m.f2, .int .i64 m.f3, .int .i64 0, .int .i64 0, .int .i64 0, .bool false, .slice none 0 0, .int .i64 0, .int .i64 0, .int .i64 0, .slice none 0 0, .int .i64 0, .int .i64 0, .int .i64 0, .slice none 0 0] rfl rfl 34 #[.int .i64 0, .int .i64 0, .int .i64 0, .int .i64 0, .int .i64 0, .int .i64 0, .int .i64 0, .bool false, .slice none 0 0, .int .i64 0, .int .i64 0, .int .i64 0, .slice none 0 0, .int .i64 0, .int .i64 0, .int .i64 0, .slice none 0 0] HT1.out.g0 (by kernel_rfl) rfl (by simp [Value.oneCell']) ?_
 have HD := Lib.hid (HT1.out.fin (cs' := #[.int .i64 m.f0, .int .i64 m.f1, .int .i64 m.f2, .int .i64 m.f3, .int .i64 0, .int .i64 0, .int .i64 0, .bool false, .slice none 0 0, .int .i64 0, .int .i64 0, .int .i64 0, .slice none 0 0, .int .i64 0, .int .i64 0, .int .i64 0, .slice none 0 0]))
 obtain ⟨W, hW⟩ : ∃ W, w1.setRow (g + 1) #[.int .i64 m.f0, .int .i64 m.f1, .int .i64 m.f2, .int .i64 m.f3, .int .i64 0, .int .i64 0, .int .i64 0, .bool false, .slice none 0 0, .int .i64 0, .int .i64 0, .int .i64 0, .slice none 0 0, .int .i64 0, .int .i64 0, .int .i64 0, .slice none 0 0] = W := ⟨_, rfl⟩
 rw [hW] at HD ⊢
 clear hW
 go_wp2_with fail
 refine bodyPost_ret (results_ct rfl _ _ (g + 1) 34 #[.int .i64 m.f0, .int .i64 m.f1, .int .i64 m.f2, .int .i64 m.f3, .int .i64 0, .int .i64 0, .int .i64 0, .bool false, .slice none 0 0, .int .i64 0, .int .i64 0, .int .i64 0, .slice none 0 0, .int .i64 0, .int .i64 0, .int .i64 0, .slice none 0 0] (0, 0) _ rfl HD.out.1 Tryz.underlying34 rfl (by kernel_rfl)) rfl ?_
 exact ⟨⟨m.f0, m.f1, m.f2, m.f3, 0, 0, 0, false, [], zE, zP⟩, none, none, none, 0, 0, 0, by rw [HK.out]; rfl, fun h => (by rw [HK.out] at h; cases h), ⟨Nat.le_refl 0, Kd.C_nil _ _, Nat.le_refl 0, Kd.C_nil _ _, Nat.le_refl 0, Kd.C_nil _ _⟩, HD.out.2.2⟩
theorem plain_is {w : World} (m : MsgD) {A8 A12 A16 : Option Addr} {c8 c12 c16 : Nat} (hm : MsgC w m A8 c8 A12 c12 A16 c16) :
  Calls Tryz.prog 68 #[.agg #[.int .i64 m.f0, .int .i64 m.f1, .int .i64 m.f2, .int .i64 m.f3, .int .i64 m.f4, .int .i64 m.f5, .int .i64 m.f6, .bool m.f7, .slice A8 m.f8.length c8, .int .i64 m.f9.f0, .int .i64 m.f9.f1, .int .i64 m.f9.f2, .slice A12 m.f9.f3.length c12, .int .i64 m.f10.f0, .int .i64 m.f10.f1, .int .i64 m.f10.f2, .slice A16 m.f10.f3.length c16]] w fun e w' => BareP w m e w' := by
 cases hk : isKind m.f0 with
 | false => exact plain_k0 m hm hk
 | true =>
  have h2 : 1 ≤ m.f0 ∧ m.f0 ≤ 6 := by
   unfold isKind at hk
   rw [Bool.and_eq_true, decide_eq_true_eq, decide_eq_true_eq] at hk
   exact hk
  by_cases h1 : m.f0 = 1
  ·exact plain_k1 m hm h1
  ·by_cases h3 : m.f0 = 2
   ·exact plain_k2 m hm h3
   ·by_cases h4 : m.f0 = 3
    ·exact plain_k3 m hm h4
    ·by_cases h5 : m.f0 = 4
     ·exact plain_k4 m hm h5
     ·by_cases h6 : m.f0 = 5
      ·exact plain_k5 m hm h6
      ·exact plain_k6 m hm (by omega)
end Go.Proofs.YtgiefblcckikeaaGreat.M
end
