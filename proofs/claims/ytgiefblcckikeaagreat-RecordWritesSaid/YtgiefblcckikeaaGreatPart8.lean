/- RecordWritesSaid: contracts of the functions that the law goes through, put together in build order (part 9 of 11). -/
import Derived.Test.YtgiefblcckikeaaGreatPart7
section
-- Written by a program of this session's (wip/gprint.py over the kit's printer).
namespace Go.Proofs.YtgiefblcckikeaaGreat.G
open Go.RowKit Go.Proofs.YtgiefblcckikeaaGreatW.PrintWords Go.Proofs.YtgiefblcckikeaaGreatW.PrintLast Go.Proofs.YtgiefblcckikeaaGreatW.PrintMore
attribute [local go_sem] max2_int min2_int max_two min_two max_three min_three max_four min_four   -- for this text's walks alone
set_option linter.unusedVariables false
set_option linter.unusedSimpArgs false
def trivetref04_MsgForm.f (k : Nat) (a0_0 : Int) (a0_1 : Int) (a0_2 : Int) (a0_3 : Int) (a0_4 : Int) (a0_5 : Int) (a0_6 : Int) (a0_7 : Bool) (l0_8 : List (S63)) (a0_9 : Int) (a0_10 : Int) (a0_11 : Int) (l0_12 : List (S26)) (a0_13 : Int) (a0_14 : Int) (a0_15 : Int) (l0_16 : List Int) : Option (List Int) := (trivetref04_num.f k ([] : List Int) (([a0_0, a0_1, a0_2] : List Int))).bind fun t470 => (if a0_0 = 6 then ((trivetref04_EntryForm.f k a0_9 a0_10 a0_11 l0_12).bind fun t473 => (if t470.length + t473.length < 140737488355328 then (some (t470 ++ t473)) else (none))) else (if a0_0 = 1 then ((trivetref04_num.f k t470 (([a0_3, a0_4, a0_5] : List Int))).bind fun t482 => (some t482)) else (if a0_0 = 2 then ((trivetref04_num.f k t470 (([a0_3] : List Int))).bind fun t488 => ((trivetref04_yes.f k t488 a0_7).bind fun t491 => (some t491))) else (if a0_0 = 3 then ((trivetref04_num.f k t470 (([a0_3, a0_4, a0_5, a0_6] : List Int))).bind fun t497 => ((trivetref04_lists.f k t497 l0_8).bind fun t500 => (some t500))) else (if a0_0 = 4 then ((trivetref04_num.f k t470 (([a0_3] : List Int))).bind fun t506 => ((trivetref04_yes.f k t506 a0_7).bind fun t509 => ((trivetref04_num.f k t509 (([a0_4] : List Int))).bind fun t515 => (some t515)))) else ((trivetref04_num.f k t470 (([a0_3, a0_4, a0_5] : List Int))).bind fun t521 => ((trivetref04_PartForm.f k a0_13 a0_14 a0_15 l0_16).bind fun t524 => (if t521.length + t524.length < 140737488355328 then (some (t521 ++ t524)) else (none)))))))))
theorem trivetref04_MsgForm.mono : ∀ a0 a1 a2 a3 a4 a5 a6 a7 a8 a9 a10 a11 a12 a13 a14 a15 a16 k, LeO (trivetref04_MsgForm.f k a0 a1 a2 a3 a4 a5 a6 a7 a8 a9 a10 a11 a12 a13 a14 a15 a16) (trivetref04_MsgForm.f (k + 1) a0 a1 a2 a3 a4 a5 a6 a7 a8 a9 a10 a11 a12 a13 a14 a15 a16) := by
  intro a0 a1 a2 a3 a4 a5 a6 a7 a8 a9 a10 a11 a12 a13 a14 a15 a16 k
  unfold trivetref04_MsgForm.f
  repeat' first
      | (with_reducible exact trivetref04_EntryForm.mono _ _ _ _ _)
      | (with_reducible exact trivetref04_PartForm.mono _ _ _ _ _)
      | (with_reducible exact trivetref04_lists.mono _ _ _)
      | (with_reducible exact trivetref04_num.mono _ _ _)
      | (with_reducible exact trivetref04_yes.mono _ _ _)
      | (with_reducible exact LeO.refl _)
      | (with_reducible exact LeO.none _)
      | (with_reducible refine LeO.ite ?_ ?_)
      | (with_reducible refine LeO.bind ?_ (fun _ => ?_))
      | exact trivetref04_EntryForm.mono _ _ _ _ _
      | exact trivetref04_PartForm.mono _ _ _ _ _
      | exact trivetref04_lists.mono _ _ _
      | exact trivetref04_num.mono _ _ _
      | exact trivetref04_yes.mono _ _ _
      | exact LeO.none _
      | refine LeO.ite ?_ ?_
      | refine LeO.bind ?_ (fun _ => ?_)
def trivetref04_MsgForm.T8 : Bool × List (List Nat × List Nat) := (true, [([], []), ([], []), ([1], [1]), ([2], [2]), ([0, 3], [0, 3]), ([], []), ([5], [5]), ([4, 6, 4], [4, 6]), ([7, 7, 0, 1, 2, 3, 4, 5, 6, 7], [7])])
def trivetref04_MsgForm.B8 : List Nat := [0, 0, 2, 6, 15, 0, 32, 127, 255]
theorem trivetref04_MsgForm.tab8 : rtab .any (opsOf Tryz.f52 8) = trivetref04_MsgForm.T8 := by kernel_rfl
theorem trivetref04_MsgForm.bits8 : waitsOk trivetref04_MsgForm.T8.2 trivetref04_MsgForm.B8 = true := by kernel_rfl
def trivetref04_MsgForm.T10 : Bool × List (List Nat × List Nat) := (true, [([], []), ([], []), ([1], [1]), ([], []), ([3], [3]), ([], []), ([5], [5]), ([], []), ([7], [7]), ([2, 4, 6, 8], [2, 4, 6, 8]), ([0, 9], [0, 9]), ([], []), ([11], [11]), ([10, 12, 10], [10, 12]), ([13, 13, 0, 1, 2, 3, 4, 5, 6, 7, 8, 9, 10, 11, 12, 13], [13])])
def trivetref04_MsgForm.B10 : List Nat := [0, 0, 2, 0, 8, 0, 32, 0, 128, 510, 1023, 0, 2048, 8191, 16383]
theorem trivetref04_MsgForm.tab10 : rtab .any (opsOf Tryz.f52 10) = trivetref04_MsgForm.T10 := by kernel_rfl
theorem trivetref04_MsgForm.bits10 : waitsOk trivetref04_MsgForm.T10.2 trivetref04_MsgForm.B10 = true := by kernel_rfl
def trivetref04_MsgForm.T12 : Bool × List (List Nat × List Nat) := (true, [([], []), ([], []), ([1], [1]), ([2], [2]), ([0, 3], [0, 3]), ([], []), ([5], [5]), ([4, 6, 4], [4, 6]), ([], []), ([8], [8]), ([9], [9]), ([7, 10, 7], [7, 10]), ([11, 11, 0, 1, 2, 3, 4, 5, 6, 7, 8, 9, 10, 11], [11])])
def trivetref04_MsgForm.B12 : List Nat := [0, 0, 2, 6, 15, 0, 32, 127, 0, 256, 768, 2047, 4095]
theorem trivetref04_MsgForm.tab12 : rtab .any (opsOf Tryz.f52 12) = trivetref04_MsgForm.T12 := by kernel_rfl
theorem trivetref04_MsgForm.bits12 : waitsOk trivetref04_MsgForm.T12.2 trivetref04_MsgForm.B12 = true := by kernel_rfl
def trivetref04_MsgForm.T13 : Bool × List (List Nat × List Nat) := (true, [([], []), ([], []), ([1], [1]), ([], []), ([3], [3]), ([], []), ([5], [5]), ([2, 4, 6], [2, 4, 6]), ([0, 7], [0, 7]), ([], []), ([9], [9]), ([10, 8], [10]), ([8, 11, 11], [8, 11]), ([12, 12, 0, 1, 2, 3, 4, 5, 6, 7, 8, 9, 10, 11, 12], [12])])
def trivetref04_MsgForm.B13 : List Nat := [0, 0, 2, 0, 8, 0, 32, 126, 255, 0, 512, 2047, 4095, 8191]
theorem trivetref04_MsgForm.tab13 : rtab .any (opsOf Tryz.f52 13) = trivetref04_MsgForm.T13 := by kernel_rfl
theorem trivetref04_MsgForm.bits13 : waitsOk trivetref04_MsgForm.T13.2 trivetref04_MsgForm.B13 = true := by kernel_rfl
set_option maxHeartbeats 8000000 in
set_option maxRecDepth 100000 in
theorem trivetref04_MsgForm.calls (k : Nat) (a0_0 : Int) (a0_1 : Int) (a0_2 : Int) (a0_3 : Int) (a0_4 : Int) (a0_5 : Int) (a0_6 : Int) (a0_7 : Bool) (A0_8 : Option Addr) (c0_8 : Nat) (l0_8 : List (S63)) (a0_9 : Int) (a0_10 : Int) (a0_11 : Int) (A0_12 : Option Addr) (c0_12 : Nat) (l0_12 : List (S26)) (a0_13 : Int) (a0_14 : Int) (a0_15 : Int) (A0_16 : Option Addr) (c0_16 : Nat) (l0_16 : List Int) (r : List Int) (w : World) (hr0_8 : Kd.C k63 w A0_8 l0_8.length l0_8) (hc0_8 : l0_8.length ≤ c0_8) (hr0_12 : Kd.C k26 w A0_12 l0_12.length l0_12) (hc0_12 : l0_12.length ≤ c0_12) (hr0_16 : Kd.C (Kd.int .u8) w A0_16 l0_16.length l0_16) (hc0_16 : l0_16.length ≤ c0_16) (h : trivetref04_MsgForm.f k a0_0 a0_1 a0_2 a0_3 a0_4 a0_5 a0_6 a0_7 l0_8 a0_9 a0_10 a0_11 l0_12 a0_13 a0_14 a0_15 l0_16 = some r) :
    Calls Tryz.prog 52 #[.agg #[.int .i64 a0_0, .int .i64 a0_1, .int .i64 a0_2, .int .i64 a0_3, .int .i64 a0_4, .int .i64 a0_5, .int .i64 a0_6, .bool a0_7, .slice A0_8 l0_8.length c0_8, .int .i64 a0_9, .int .i64 a0_10, .int .i64 a0_11, .slice A0_12 l0_12.length c0_12, .int .i64 a0_13, .int .i64 a0_14, .int .i64 a0_15, .slice A0_16 l0_16.length c0_16]] w fun e w' => ∃ v0_ : Value, e = .returned (v0_) ∧ Kd.R (Kd.int .u8) 5 w' w.heap.size (fun _ => True) v0_ r ∧ Below w.heap.size w w' := by
  have hu34 := Tryz.underlying34
  have hu29 := Tryz.underlying29
  have hu32 := Tryz.underlying32
  have HR0_8 := Aside0.mk hr0_8
  have HC0_8 := Aside0.mk hc0_8
  clear hr0_8 hc0_8
  have HR0_12 := Aside0.mk hr0_12
  have HC0_12 := Aside0.mk hc0_12
  clear hr0_12 hc0_12
  have HR0_16 := Aside0.mk hr0_16
  have HC0_16 := Aside0.mk hc0_16
  clear hr0_16 hc0_16
  have HB := Aside0.mk (Below.refl w.heap.size w)
  have H : ((trivetref04_num.f k ([] : List Int) (([a0_0, a0_1, a0_2] : List Int))).bind fun t470 => (if a0_0 = 6 then ((trivetref04_EntryForm.f k a0_9 a0_10 a0_11 l0_12).bind fun t473 => (if t470.length + t473.length < 140737488355328 then (some (t470 ++ t473)) else (none))) else (if a0_0 = 1 then ((trivetref04_num.f k t470 (([a0_3, a0_4, a0_5] : List Int))).bind fun t482 => (some t482)) else (if a0_0 = 2 then ((trivetref04_num.f k t470 (([a0_3] : List Int))).bind fun t488 => ((trivetref04_yes.f k t488 a0_7).bind fun t491 => (some t491))) else (if a0_0 = 3 then ((trivetref04_num.f k t470 (([a0_3, a0_4, a0_5, a0_6] : List Int))).bind fun t497 => ((trivetref04_lists.f k t497 l0_8).bind fun t500 => (some t500))) else (if a0_0 = 4 then ((trivetref04_num.f k t470 (([a0_3] : List Int))).bind fun t506 => ((trivetref04_yes.f k t506 a0_7).bind fun t509 => ((trivetref04_num.f k t509 (([a0_4] : List Int))).bind fun t515 => (some t515)))) else ((trivetref04_num.f k t470 (([a0_3, a0_4, a0_5] : List Int))).bind fun t521 => ((trivetref04_PartForm.f k a0_13 a0_14 a0_15 l0_16).bind fun t524 => (if t521.length + t524.length < 140737488355328 then (some (t521 ++ t524)) else (none)))))))))) = some r := h
  clear h
  obtain ⟨y467, hy467⟩ : ∃ y_ : List Int, y_ = (([a0_0, a0_1, a0_2] : List Int)) := ⟨_, rfl⟩
  replace H : ((trivetref04_num.f k ([] : List Int) y467).bind fun t470 => (if a0_0 = 6 then ((trivetref04_EntryForm.f k a0_9 a0_10 a0_11 l0_12).bind fun t473 => (if t470.length + t473.length < 140737488355328 then (some (t470 ++ t473)) else (none))) else (if a0_0 = 1 then ((trivetref04_num.f k t470 (([a0_3, a0_4, a0_5] : List Int))).bind fun t482 => (some t482)) else (if a0_0 = 2 then ((trivetref04_num.f k t470 (([a0_3] : List Int))).bind fun t488 => ((trivetref04_yes.f k t488 a0_7).bind fun t491 => (some t491))) else (if a0_0 = 3 then ((trivetref04_num.f k t470 (([a0_3, a0_4, a0_5, a0_6] : List Int))).bind fun t497 => ((trivetref04_lists.f k t497 l0_8).bind fun t500 => (some t500))) else (if a0_0 = 4 then ((trivetref04_num.f k t470 (([a0_3] : List Int))).bind fun t506 => ((trivetref04_yes.f k t506 a0_7).bind fun t509 => ((trivetref04_num.f k t509 (([a0_4] : List Int))).bind fun t515 => (some t515)))) else ((trivetref04_num.f k t470 (([a0_3, a0_4, a0_5] : List Int))).bind fun t521 => ((trivetref04_PartForm.f k a0_13 a0_14 a0_15 l0_16).bind fun t524 => (if t521.length + t524.length < 140737488355328 then (some (t521 ++ t524)) else (none)))))))))) = some r := by first | (rw [hy467]; with_reducible exact H) | (have H2_ := (Option.bind_some _ _).symm.trans H; rw [hy467]; with_reducible exact H2_) | (have H2_ := (Option.bind_some _ _).symm.trans H; with_reducible exact H2_) | with_reducible exact H | (rw [hy467]; exact H) | exact H
  have Ny467 := Aside0.mk hy467
  clear hy467
  replace H := Option.bind_eq_some_iff.mp H
  obtain ⟨t470, A20, H⟩ := H
  replace H : (if a0_0 = 6 then ((trivetref04_EntryForm.f k a0_9 a0_10 a0_11 l0_12).bind fun t473 => (if t470.length + t473.length < 140737488355328 then (some (t470 ++ t473)) else (none))) else (if a0_0 = 1 then ((trivetref04_num.f k t470 (([a0_3, a0_4, a0_5] : List Int))).bind fun t482 => (some t482)) else (if a0_0 = 2 then ((trivetref04_num.f k t470 (([a0_3] : List Int))).bind fun t488 => ((trivetref04_yes.f k t488 a0_7).bind fun t491 => (some t491))) else (if a0_0 = 3 then ((trivetref04_num.f k t470 (([a0_3, a0_4, a0_5, a0_6] : List Int))).bind fun t497 => ((trivetref04_lists.f k t497 l0_8).bind fun t500 => (some t500))) else (if a0_0 = 4 then ((trivetref04_num.f k t470 (([a0_3] : List Int))).bind fun t506 => ((trivetref04_yes.f k t506 a0_7).bind fun t509 => ((trivetref04_num.f k t509 (([a0_4] : List Int))).bind fun t515 => (some t515)))) else ((trivetref04_num.f k t470 (([a0_3, a0_4, a0_5] : List Int))).bind fun t521 => ((trivetref04_PartForm.f k a0_13 a0_14 a0_15 l0_16).bind fun t524 => (if t521.length + t524.length < 140737488355328 then (some (t521 ++ t524)) else (none))))))))) = some r := H
  have A2 := Aside0.mk A20
  clear A20
  by_cases c3 : a0_0 = 6
  · rw [if_pos c3] at H
    have c3b0 : (a0_0 == 6) = true := beq_iff_eq.mpr c3
    have c3b1 : (a0_0 != 6) = false := bne_eq_false_iff_eq.mpr c3
    clear c3
    replace H := Option.bind_eq_some_iff.mp H
    obtain ⟨t473, A40, H⟩ := H
    replace H : (if t470.length + t473.length < 140737488355328 then (some (t470 ++ t473)) else (none)) = some r := H
    have A4 := Aside0.mk A40
    clear A40
    by_cases c5 : t470.length + t473.length < 140737488355328
    · rw [if_pos c5] at H
      have LMc5 := Aside0.mk c5
      clear c5
      obtain ⟨y476, hy476⟩ : ∃ y_ : List Int, y_ = (t470 ++ t473) := ⟨_, rfl⟩
      replace H : (some y476) = some r := by first | (rw [hy476]; with_reducible exact H) | (have H2_ := (Option.bind_some _ _).symm.trans H; rw [hy476]; with_reducible exact H2_) | (have H2_ := (Option.bind_some _ _).symm.trans H; with_reducible exact H2_) | with_reducible exact H | (rw [hy476]; exact H) | exact H
      have Ny476 := Aside0.mk hy476
      clear hy476
      obtain rfl := Option.some.inj H
      go_enter Tryz.func52, Tryz.ntmps52
      go_wp2_with (first | ((with_reducible refine gate_dst (N := 1) rfl ?_); refine box_event ?hg (N := 1) ?hd (cs := #[.int .i64 a0_0, .int .i64 a0_1, .int .i64 a0_2, .int .i64 a0_3, .int .i64 a0_4, .int .i64 a0_5, .int .i64 a0_6, .bool a0_7, .slice A0_8 l0_8.length c0_8, .int .i64 a0_9, .int .i64 a0_10, .int .i64 a0_11, .slice A0_12 l0_12.length c0_12, .int .i64 a0_13, .int .i64 a0_14, .int .i64 a0_15, .slice A0_16 l0_16.length c0_16]) (t := 34) ?hr ?_; (case hd => rfl); (case hg => rfl); (case hr => first | (go_simp; done) | (go_simp; rfl)); intro gb466 hg w6 hbox hb; have n0_ := Aside0.mk (below_step (by repeat (first | (with_reducible first | exact HB.out | apply below_alloc | apply pw_below_drewN | apply below_drew1) | exact HB.out)) hb); have n1_ := Aside0.mk (hbox); have n2_ := Aside0.mk ((by rw [hg]; exact (below_size (by repeat (first | (with_reducible first | exact HB.out | apply below_alloc | apply pw_below_drewN | apply below_drew1) | exact HB.out))) : w.heap.size ≤ gb466)); have n3_ := Aside0.mk ((by rw [hg]; exact (below_size (by repeat (first | (with_reducible first | exact HB.out | apply below_alloc | apply pw_below_drewN | apply below_drew1) | exact HB.out))) : w.heap.size ≤ gb466)); clear HB; have HB := n0_; have BK466 := n1_; have GW466 := n2_; have GE466 := n3_; clear n0_ n1_ n2_ n3_; clear hb hbox hg; have hcz7_0 : w6.cell? ⟨gb466, 0, none⟩ = some (.int .i64 a0_0) := (blk_cell BK466.out 0).trans rfl; have hcz7_1 : w6.cell? ⟨gb466, 1, none⟩ = some (.int .i64 a0_1) := (blk_cell BK466.out 1).trans rfl; have hcz7_2 : w6.cell? ⟨gb466, 2, none⟩ = some (.int .i64 a0_2) := (blk_cell BK466.out 2).trans rfl; have hcz7_3 : w6.cell? ⟨gb466, 3, none⟩ = some (.int .i64 a0_3) := (blk_cell BK466.out 3).trans rfl; have hcz7_4 : w6.cell? ⟨gb466, 4, none⟩ = some (.int .i64 a0_4) := (blk_cell BK466.out 4).trans rfl; have hcz7_5 : w6.cell? ⟨gb466, 5, none⟩ = some (.int .i64 a0_5) := (blk_cell BK466.out 5).trans rfl; have hcz7_6 : w6.cell? ⟨gb466, 6, none⟩ = some (.int .i64 a0_6) := (blk_cell BK466.out 6).trans rfl; have hcz7_7 : w6.cell? ⟨gb466, 7, none⟩ = some (.bool a0_7) := (blk_cell BK466.out 7).trans rfl; have hcz7_8 : w6.cell? ⟨gb466, 8, none⟩ = some (.slice A0_8 l0_8.length c0_8) := (blk_cell BK466.out 8).trans rfl; have hcz7_9 : w6.cell? ⟨gb466, 9, none⟩ = some (.int .i64 a0_9) := (blk_cell BK466.out 9).trans rfl; have hcz7_10 : w6.cell? ⟨gb466, 10, none⟩ = some (.int .i64 a0_10) := (blk_cell BK466.out 10).trans rfl; have hcz7_11 : w6.cell? ⟨gb466, 11, none⟩ = some (.int .i64 a0_11) := (blk_cell BK466.out 11).trans rfl; have hcz7_12 : w6.cell? ⟨gb466, 12, none⟩ = some (.slice A0_12 l0_12.length c0_12) := (blk_cell BK466.out 12).trans rfl; have hcz7_13 : w6.cell? ⟨gb466, 13, none⟩ = some (.int .i64 a0_13) := (blk_cell BK466.out 13).trans rfl; have hcz7_14 : w6.cell? ⟨gb466, 14, none⟩ = some (.int .i64 a0_14) := (blk_cell BK466.out 14).trans rfl; have hcz7_15 : w6.cell? ⟨gb466, 15, none⟩ = some (.int .i64 a0_15) := (blk_cell BK466.out 15).trans rfl; have hcz7_16 : w6.cell? ⟨gb466, 16, none⟩ = some (.slice A0_16 l0_16.length c0_16) := (blk_cell BK466.out 16).trans rfl; have hfz7_0 := blk_frozen BK466.out 0; have hfz7_1 := blk_frozen BK466.out 1; have hfz7_2 := blk_frozen BK466.out 2; have hfz7_3 := blk_frozen BK466.out 3; have hfz7_4 := blk_frozen BK466.out 4; have hfz7_5 := blk_frozen BK466.out 5; have hfz7_6 := blk_frozen BK466.out 6; have hfz7_7 := blk_frozen BK466.out 7; have hfz7_8 := blk_frozen BK466.out 8; have hfz7_9 := blk_frozen BK466.out 9; have hfz7_10 := blk_frozen BK466.out 10; have hfz7_11 := blk_frozen BK466.out 11; have hfz7_12 := blk_frozen BK466.out 12; have hfz7_13 := blk_frozen BK466.out 13; have hfz7_14 := blk_frozen BK466.out 14; have hfz7_15 := blk_frozen BK466.out 15; have hfz7_16 := blk_frozen BK466.out 16) | ((with_reducible refine gate_dst (N := 10) rfl ?_); refine Kd.R_lit (Kd.int .i64) _ 2 ?hg (N := 10) ?hd (xs := ([a0_0, a0_1, a0_2] : List Int)) (inner := [.int .i64 a0_0, .int .i64 a0_1, .int .i64 a0_2]) (ok := fun _ => True) (okp := fun _ => True) ?hr ?hp (fun _ hk => hk) trivial (Below.refl _ _) (Nat.le_refl _) (by simp) ?_; (case hd => rfl); (case hg => rfl); (case hr => first | (go_simp; done) | (go_simp; rfl)); (case hp => exact (Reps.one (show Kd.M (Kd.int .i64) _ _ _ a0_0 [.int .i64 a0_0] from rfl) (Reps.one (show Kd.M (Kd.int .i64) _ _ _ a0_1 [.int .i64 a0_1] from rfl) (Reps.one (show Kd.M (Kd.int .i64) _ _ _ a0_2 [.int .i64 a0_2] from rfl) (Reps.none _ _))))); intro v468 w8 ho9 hb hg_ hnew_; clear hg_ hnew_; (first | rw [← Ny467.out] at ho9 | (simp only [Int.reduceToNat] at ho9; rw [← Ny467.out] at ho9)); have n0_ := Aside0.mk (Kd.R_lower ho9 (below_size (by repeat (first | (with_reducible first | exact HB.out | apply below_alloc | apply pw_below_drewN | apply below_drew1 | refine below_set ?_ GE466.out) | exact HB.out)))); have n1_ := Aside0.mk (blk_below (g := gb466) (o := .cells #[.int .i64 a0_0, .int .i64 a0_1, .int .i64 a0_2, .int .i64 a0_3, .int .i64 a0_4, .int .i64 a0_5, .int .i64 a0_6, .bool a0_7, .slice A0_8 l0_8.length c0_8, .int .i64 a0_9, .int .i64 a0_10, .int .i64 a0_11, .slice A0_12 l0_12.length c0_12, .int .i64 a0_13, .int .i64 a0_14, .int .i64 a0_15, .slice A0_16 l0_16.length c0_16] 34 (0, 0)) (by (with_reducible repeat (first | refine blk_drewN ?_ _ | refine blk_drew ?_ | refine blk_alloc ?_ _)); exact BK466.out) hb); have n2_ := Aside0.mk (below_step (by repeat (first | (with_reducible first | exact HB.out | apply below_alloc | apply pw_below_drewN | apply below_drew1 | refine below_set ?_ GE466.out) | exact HB.out)) hb); clear BK466; clear HB; have HO469 := n0_; have BK466 := n1_; have HB := n2_; clear n0_ n1_ n2_; clear hb ho9; obtain ⟨Ao10, co10, eo10⟩ := Kd.R_slice HO469.out; subst eo10) | ((with_reducible refine gate_callee (f := 97) rfl ?_); refine goesL_ (some 11) rfl rfl Tryz.func97 (by kernel_rfl) rfl #[.slice none 0 0, .slice Ao10 y467.length co10] rfl (by (try simp only [List.map_toArray, List.map_cons, List.map_nil]); first | done | rfl | (simp only [List.length_drop, List.length_take]; rfl)) ?_; (refine (trivetref04_num.calls k _ _ ([] : List Int) _ _ y467 t470 _ ?side1 ?side2 ?side3 ?side4 A2.out).mono ?_); (case side1 => exact Kd.C_nil _ _); (case side2 => exact Nat.le_refl _); (case side3 => repeat (first | exact (Kd.R_reads' HO469.out).2.2 | (with_reducible refine Kd.C_alloc ?_ _) | (with_reducible refine Kd.C_drewN ?_ _) | (with_reducible refine Kd.C_drew ?_))); (case side4 => exact (Kd.R_reads' HO469.out).2.1); rintro e w11 ⟨v471, rfl, ho0, hb⟩; refine ⟨_, rfl, ?_⟩; have n0_ := Aside0.mk (Kd.R_below (by (with_reducible repeat (first|apply Kd.R_alloc | apply Kd.R_drewN | apply Kd.R_drew)); exact HO469.out) hb); have n1_ := Aside0.mk (Kd.R_lower ho0 (below_size (by repeat (first | (with_reducible first | exact HB.out | apply below_alloc | apply pw_below_drewN | apply below_drew1 | refine below_set ?_ GE466.out) | exact HB.out)))); have n2_ := Aside0.mk (blk_below (g := gb466) (o := .cells #[.int .i64 a0_0, .int .i64 a0_1, .int .i64 a0_2, .int .i64 a0_3, .int .i64 a0_4, .int .i64 a0_5, .int .i64 a0_6, .bool a0_7, .slice A0_8 l0_8.length c0_8, .int .i64 a0_9, .int .i64 a0_10, .int .i64 a0_11, .slice A0_12 l0_12.length c0_12, .int .i64 a0_13, .int .i64 a0_14, .int .i64 a0_15, .slice A0_16 l0_16.length c0_16] 34 (0, 0)) (by (with_reducible repeat (first | refine blk_drewN ?_ _ | refine blk_drew ?_ | refine blk_alloc ?_ _)); exact BK466.out) hb); have n3_ := Aside0.mk (below_step (by repeat (first | (with_reducible first | exact HB.out | apply below_alloc | apply pw_below_drewN | apply below_drew1 | refine below_set ?_ GE466.out) | exact HB.out)) hb); clear HO469; clear BK466; clear HB; have HO469 := n0_; have HO472 := n1_; have BK466 := n2_; have HB := n3_; clear n0_ n1_ n2_ n3_; (try clear hb); (try clear hb2); (try clear hk); (try clear hi); (try clear ho0); have hcz12_0 : w11.cell? ⟨gb466, 0, none⟩ = some (.int .i64 a0_0) := (blk_cell BK466.out 0).trans rfl; have hcz12_1 : w11.cell? ⟨gb466, 1, none⟩ = some (.int .i64 a0_1) := (blk_cell BK466.out 1).trans rfl; have hcz12_2 : w11.cell? ⟨gb466, 2, none⟩ = some (.int .i64 a0_2) := (blk_cell BK466.out 2).trans rfl; have hcz12_3 : w11.cell? ⟨gb466, 3, none⟩ = some (.int .i64 a0_3) := (blk_cell BK466.out 3).trans rfl; have hcz12_4 : w11.cell? ⟨gb466, 4, none⟩ = some (.int .i64 a0_4) := (blk_cell BK466.out 4).trans rfl; have hcz12_5 : w11.cell? ⟨gb466, 5, none⟩ = some (.int .i64 a0_5) := (blk_cell BK466.out 5).trans rfl; have hcz12_6 : w11.cell? ⟨gb466, 6, none⟩ = some (.int .i64 a0_6) := (blk_cell BK466.out 6).trans rfl; have hcz12_7 : w11.cell? ⟨gb466, 7, none⟩ = some (.bool a0_7) := (blk_cell BK466.out 7).trans rfl; have hcz12_8 : w11.cell? ⟨gb466, 8, none⟩ = some (.slice A0_8 l0_8.length c0_8) := (blk_cell BK466.out 8).trans rfl; have hcz12_9 : w11.cell? ⟨gb466, 9, none⟩ = some (.int .i64 a0_9) := (blk_cell BK466.out 9).trans rfl; have hcz12_10 : w11.cell? ⟨gb466, 10, none⟩ = some (.int .i64 a0_10) := (blk_cell BK466.out 10).trans rfl; have hcz12_11 : w11.cell? ⟨gb466, 11, none⟩ = some (.int .i64 a0_11) := (blk_cell BK466.out 11).trans rfl; have hcz12_12 : w11.cell? ⟨gb466, 12, none⟩ = some (.slice A0_12 l0_12.length c0_12) := (blk_cell BK466.out 12).trans rfl; have hcz12_13 : w11.cell? ⟨gb466, 13, none⟩ = some (.int .i64 a0_13) := (blk_cell BK466.out 13).trans rfl; have hcz12_14 : w11.cell? ⟨gb466, 14, none⟩ = some (.int .i64 a0_14) := (blk_cell BK466.out 14).trans rfl; have hcz12_15 : w11.cell? ⟨gb466, 15, none⟩ = some (.int .i64 a0_15) := (blk_cell BK466.out 15).trans rfl; have hcz12_16 : w11.cell? ⟨gb466, 16, none⟩ = some (.slice A0_16 l0_16.length c0_16) := (blk_cell BK466.out 16).trans rfl; have hfz12_0 := blk_frozen BK466.out 0; have hfz12_1 := blk_frozen BK466.out 1; have hfz12_2 := blk_frozen BK466.out 2; have hfz12_3 := blk_frozen BK466.out 3; have hfz12_4 := blk_frozen BK466.out 4; have hfz12_5 := blk_frozen BK466.out 5; have hfz12_6 := blk_frozen BK466.out 6; have hfz12_7 := blk_frozen BK466.out 7; have hfz12_8 := blk_frozen BK466.out 8; have hfz12_9 := blk_frozen BK466.out 9; have hfz12_10 := blk_frozen BK466.out 10; have hfz12_11 := blk_frozen BK466.out 11; have hfz12_12 := blk_frozen BK466.out 12; have hfz12_13 := blk_frozen BK466.out 13; have hfz12_14 := blk_frozen BK466.out 14; have hfz12_15 := blk_frozen BK466.out 15; have hfz12_16 := blk_frozen BK466.out 16) | ((with_reducible refine gate_callee (f := 49) rfl ?_); refine goesL_ (some 19) rfl rfl Tryz.func49 (by kernel_rfl) rfl #[.agg #[.int .i64 a0_9, .int .i64 a0_10, .int .i64 a0_11, .slice A0_12 l0_12.length c0_12]] rfl (by (try simp only [List.map_toArray, List.map_cons, List.map_nil]); first | done | rfl | (simp only [List.length_drop, List.length_take]; rfl)) ?_; (with_reducible refine (trivetref04_EntryForm.calls k a0_9 a0_10 a0_11 _ _ l0_12 t473 _ ?side1 ?side2 A4.out).mono ?_); (case side1 => repeat (first | exact (Kd.C_below HR0_12.out HB.out) | (with_reducible refine Kd.C_alloc ?_ _) | (with_reducible refine Kd.C_drewN ?_ _) | (with_reducible refine Kd.C_drew ?_))); (case side2 => exact HC0_12.out); rintro e w13 ⟨v474, rfl, ho0, hb⟩; refine ⟨_, rfl, ?_⟩; have n0_ := Aside0.mk (Kd.R_below (by (with_reducible repeat (first|apply Kd.R_alloc | apply Kd.R_drewN | apply Kd.R_drew)); exact HO469.out) hb); have n1_ := Aside0.mk (Kd.R_elder' (by (with_reducible repeat (first|apply Kd.R_alloc | apply Kd.R_drewN | apply Kd.R_drew)); exact HO472.out) (Kd.R_base ho0) hb); have n2_ := Aside0.mk (Kd.R_lower (Kd.R_new' ho0 (Kd.R_lt (by (with_reducible repeat (first|apply Kd.R_alloc | apply Kd.R_drewN | apply Kd.R_drew)); exact HO472.out))) (below_size (by repeat (first | (with_reducible first | exact HB.out | apply below_alloc | apply pw_below_drewN | apply below_drew1 | refine below_set ?_ GE466.out) | exact HB.out)))); have n3_ := Aside0.mk (blk_below (g := gb466) (o := .cells #[.int .i64 a0_0, .int .i64 a0_1, .int .i64 a0_2, .int .i64 a0_3, .int .i64 a0_4, .int .i64 a0_5, .int .i64 a0_6, .bool a0_7, .slice A0_8 l0_8.length c0_8, .int .i64 a0_9, .int .i64 a0_10, .int .i64 a0_11, .slice A0_12 l0_12.length c0_12, .int .i64 a0_13, .int .i64 a0_14, .int .i64 a0_15, .slice A0_16 l0_16.length c0_16] 34 (0, 0)) (by (with_reducible repeat (first | refine blk_drewN ?_ _ | refine blk_drew ?_ | refine blk_alloc ?_ _)); exact BK466.out) hb); have n4_ := Aside0.mk (below_step (by repeat (first | (with_reducible first | exact HB.out | apply below_alloc | apply pw_below_drewN | apply below_drew1 | refine below_set ?_ GE466.out) | exact HB.out)) hb); clear HO469; clear HO472; clear BK466; clear HB; have HO469 := n0_; have HO472 := n1_; have HO475 := n2_; have BK466 := n3_; have HB := n4_; clear n0_ n1_ n2_ n3_ n4_; (try clear hb); (try clear hb2); (try clear hk); (try clear hi); (try clear ho0); obtain ⟨Ao15, co15, eo15⟩ := Kd.R_slice HO475.out; subst eo15) | ((with_reducible refine gate_builtin (b := .append) (xs := #[.tmp 16, .tmp 19]) rfl ?_); at_builtin; refine Kd.R_append_rows (Kd.int .u8) (w0 := w) w.heap.size rfl (.tmp 16) (.tmp 19) 23 5 (.int .u8 0) 1 rfl Tryz.underlying23 info5 rfl (by decide) (by omega) v471 t470 t473 _ _ _ (fun k_ => some k_ ≠ (.slice Ao15 t473.length co15 : Value).ownBlock) (fun _ => False) rfl rfl ?aO ?aR (fun _ _ h => h) (fun _ h => h.elim) ?aF ?aB ?aS ?aL ?_; (case aR => repeat (first | exact (Kd.R_reads' HO475.out).2.2 | (with_reducible refine Kd.C_alloc ?_ _) | (with_reducible refine Kd.C_drewN ?_ _) | (with_reducible refine Kd.C_drew ?_))); (case aB => exact (by repeat (first | (with_reducible first | exact HB.out | apply below_alloc | apply pw_below_drewN | apply below_drew1 | refine below_set ?_ GE466.out) | exact HB.out))); (case aF => exact (fun k_ hk => Kd.fresh' (Kd.R_lt (by (with_reducible repeat (first|apply Kd.R_alloc | apply Kd.R_drewN | apply Kd.R_drew)); exact HO475.out)) k_ hk)); (case aO => exact (by (with_reducible repeat (first|apply Kd.R_alloc | apply Kd.R_drewN | apply Kd.R_drew)); exact Kd.R_mono HO472.out (fun _ hk => hk.2))); (case aS => exact (below_size (by repeat (first | (with_reducible first | exact HB.out | apply below_alloc | apply pw_below_drewN | apply below_drew1 | refine below_set ?_ GE466.out) | exact HB.out)))); (case aL => have := LMc5.out; omega); intro v477 w14 ho hb hg hat; rw [← Ny476.out] at ho; have n0_ := Aside0.mk (blk_grown (g := gb466) (o := .cells #[.int .i64 a0_0, .int .i64 a0_1, .int .i64 a0_2, .int .i64 a0_3, .int .i64 a0_4, .int .i64 a0_5, .int .i64 a0_6, .bool a0_7, .slice A0_8 l0_8.length c0_8, .int .i64 a0_9, .int .i64 a0_10, .int .i64 a0_11, .slice A0_12 l0_12.length c0_12, .int .i64 a0_13, .int .i64 a0_14, .int .i64 a0_15, .slice A0_16 l0_16.length c0_16] 34 (0, 0)) (by (with_reducible repeat (first | refine blk_drewN ?_ _ | refine blk_drew ?_ | refine blk_alloc ?_ _)); exact BK466.out) hg (Kd.R_ne HO472.out BK466.out (by decide))); have n1_ := Aside0.mk (Kd.R_over' (by (with_reducible repeat (first|apply Kd.R_alloc | apply Kd.R_drewN | apply Kd.R_drew)); exact HO469.out) (Kd.R_typed (by (with_reducible repeat (first|apply Kd.R_alloc | apply Kd.R_drewN | apply Kd.R_drew)); exact HO472.out)) (by decide) hg); have n2_ := Aside0.mk (Kd.R_after (ok := (fun _ => True)) (by (with_reducible repeat (first|apply Kd.R_alloc | apply Kd.R_drewN | apply Kd.R_drew)); exact HO475.out) hg hat); have n3_ := Aside0.mk (hb); have n4_ := Aside0.mk (ho); clear BK466; clear HO469; clear HO475; clear HB; clear HO472; have BK466 := n0_; have HO469 := n1_; have HO475 := n2_; have HB := n3_; have HO478 := n4_; clear n0_ n1_ n2_ n3_ n4_; clear ho hb hg hat))
      go_ret
      exact ⟨_, by first | rfl | (simp [errW_none, errW_some] <;> rfl) | (simp [*, errW_none, errW_some] <;> rfl), by (with_reducible repeat (first|apply Kd.R_alloc | apply Kd.R_drewN | apply Kd.R_drew)); exact Kd.R_mono HO478.out (fun _ hk => trivial), by repeat (first | (with_reducible first | exact HB.out | apply below_alloc | apply pw_below_drewN | apply below_drew1 | refine below_set ?_ GE466.out) | exact HB.out)⟩
    · rw [if_neg c5] at H
      exact absurd H (by simp)
  · rw [if_neg c3] at H
    have c3b0 : (a0_0 == 6) = false := beq_eq_false_iff_ne.mpr c3
    have c3b1 : (a0_0 != 6) = true := bne_iff_ne.mpr c3
    by_cases c16 : a0_0 = 1
    · rw [if_pos c16] at H
      have c16b0 : (a0_0 == 1) = true := beq_iff_eq.mpr c16
      have c16b1 : (a0_0 != 1) = false := bne_eq_false_iff_eq.mpr c16
      clear c16
      obtain ⟨y479, hy479⟩ : ∃ y_ : List Int, y_ = (([a0_3, a0_4, a0_5] : List Int)) := ⟨_, rfl⟩
      replace H : ((trivetref04_num.f k t470 y479).bind fun t482 => (some t482)) = some r := by first | (rw [hy479]; with_reducible exact H) | (have H2_ := (Option.bind_some _ _).symm.trans H; rw [hy479]; with_reducible exact H2_) | (have H2_ := (Option.bind_some _ _).symm.trans H; with_reducible exact H2_) | with_reducible exact H | (rw [hy479]; exact H) | exact H
      have Ny479 := Aside0.mk hy479
      clear hy479
      replace H := Option.bind_eq_some_iff.mp H
      obtain ⟨t482, A170, H⟩ := H
      replace H : (some t482) = some r := H
      have A17 := Aside0.mk A170
      clear A170
      obtain rfl := Option.some.inj H
      go_enter Tryz.func52, Tryz.ntmps52
      go_wp2_with (first | ((with_reducible refine gate_dst (N := 1) rfl ?_); refine box_event ?hg (N := 1) ?hd (cs := #[.int .i64 a0_0, .int .i64 a0_1, .int .i64 a0_2, .int .i64 a0_3, .int .i64 a0_4, .int .i64 a0_5, .int .i64 a0_6, .bool a0_7, .slice A0_8 l0_8.length c0_8, .int .i64 a0_9, .int .i64 a0_10, .int .i64 a0_11, .slice A0_12 l0_12.length c0_12, .int .i64 a0_13, .int .i64 a0_14, .int .i64 a0_15, .slice A0_16 l0_16.length c0_16]) (t := 34) ?hr ?_; (case hd => rfl); (case hg => rfl); (case hr => first | (go_simp; done) | (go_simp; rfl)); intro gb466 hg w18 hbox hb; have n0_ := Aside0.mk (below_step (by repeat (first | (with_reducible first | exact HB.out | apply below_alloc | apply pw_below_drewN | apply below_drew1) | exact HB.out)) hb); have n1_ := Aside0.mk (hbox); have n2_ := Aside0.mk ((by rw [hg]; exact (below_size (by repeat (first | (with_reducible first | exact HB.out | apply below_alloc | apply pw_below_drewN | apply below_drew1) | exact HB.out))) : w.heap.size ≤ gb466)); have n3_ := Aside0.mk ((by rw [hg]; exact (below_size (by repeat (first | (with_reducible first | exact HB.out | apply below_alloc | apply pw_below_drewN | apply below_drew1) | exact HB.out))) : w.heap.size ≤ gb466)); clear HB; have HB := n0_; have BK466 := n1_; have GW466 := n2_; have GE466 := n3_; clear n0_ n1_ n2_ n3_; clear hb hbox hg; have hcz19_0 : w18.cell? ⟨gb466, 0, none⟩ = some (.int .i64 a0_0) := (blk_cell BK466.out 0).trans rfl; have hcz19_1 : w18.cell? ⟨gb466, 1, none⟩ = some (.int .i64 a0_1) := (blk_cell BK466.out 1).trans rfl; have hcz19_2 : w18.cell? ⟨gb466, 2, none⟩ = some (.int .i64 a0_2) := (blk_cell BK466.out 2).trans rfl; have hcz19_3 : w18.cell? ⟨gb466, 3, none⟩ = some (.int .i64 a0_3) := (blk_cell BK466.out 3).trans rfl; have hcz19_4 : w18.cell? ⟨gb466, 4, none⟩ = some (.int .i64 a0_4) := (blk_cell BK466.out 4).trans rfl; have hcz19_5 : w18.cell? ⟨gb466, 5, none⟩ = some (.int .i64 a0_5) := (blk_cell BK466.out 5).trans rfl; have hcz19_6 : w18.cell? ⟨gb466, 6, none⟩ = some (.int .i64 a0_6) := (blk_cell BK466.out 6).trans rfl; have hcz19_7 : w18.cell? ⟨gb466, 7, none⟩ = some (.bool a0_7) := (blk_cell BK466.out 7).trans rfl; have hcz19_8 : w18.cell? ⟨gb466, 8, none⟩ = some (.slice A0_8 l0_8.length c0_8) := (blk_cell BK466.out 8).trans rfl; have hcz19_9 : w18.cell? ⟨gb466, 9, none⟩ = some (.int .i64 a0_9) := (blk_cell BK466.out 9).trans rfl; have hcz19_10 : w18.cell? ⟨gb466, 10, none⟩ = some (.int .i64 a0_10) := (blk_cell BK466.out 10).trans rfl; have hcz19_11 : w18.cell? ⟨gb466, 11, none⟩ = some (.int .i64 a0_11) := (blk_cell BK466.out 11).trans rfl; have hcz19_12 : w18.cell? ⟨gb466, 12, none⟩ = some (.slice A0_12 l0_12.length c0_12) := (blk_cell BK466.out 12).trans rfl; have hcz19_13 : w18.cell? ⟨gb466, 13, none⟩ = some (.int .i64 a0_13) := (blk_cell BK466.out 13).trans rfl; have hcz19_14 : w18.cell? ⟨gb466, 14, none⟩ = some (.int .i64 a0_14) := (blk_cell BK466.out 14).trans rfl; have hcz19_15 : w18.cell? ⟨gb466, 15, none⟩ = some (.int .i64 a0_15) := (blk_cell BK466.out 15).trans rfl; have hcz19_16 : w18.cell? ⟨gb466, 16, none⟩ = some (.slice A0_16 l0_16.length c0_16) := (blk_cell BK466.out 16).trans rfl; have hfz19_0 := blk_frozen BK466.out 0; have hfz19_1 := blk_frozen BK466.out 1; have hfz19_2 := blk_frozen BK466.out 2; have hfz19_3 := blk_frozen BK466.out 3; have hfz19_4 := blk_frozen BK466.out 4; have hfz19_5 := blk_frozen BK466.out 5; have hfz19_6 := blk_frozen BK466.out 6; have hfz19_7 := blk_frozen BK466.out 7; have hfz19_8 := blk_frozen BK466.out 8; have hfz19_9 := blk_frozen BK466.out 9; have hfz19_10 := blk_frozen BK466.out 10; have hfz19_11 := blk_frozen BK466.out 11; have hfz19_12 := blk_frozen BK466.out 12; have hfz19_13 := blk_frozen BK466.out 13; have hfz19_14 := blk_frozen BK466.out 14; have hfz19_15 := blk_frozen BK466.out 15; have hfz19_16 := blk_frozen BK466.out 16) | ((with_reducible refine gate_dst (N := 10) rfl ?_); refine Kd.R_lit (Kd.int .i64) _ 2 ?hg (N := 10) ?hd (xs := ([a0_0, a0_1, a0_2] : List Int)) (inner := [.int .i64 a0_0, .int .i64 a0_1, .int .i64 a0_2]) (ok := fun _ => True) (okp := fun _ => True) ?hr ?hp (fun _ hk => hk) trivial (Below.refl _ _) (Nat.le_refl _) (by simp) ?_; (case hd => rfl); (case hg => rfl); (case hr => first | (go_simp; done) | (go_simp; rfl)); (case hp => exact (Reps.one (show Kd.M (Kd.int .i64) _ _ _ a0_0 [.int .i64 a0_0] from rfl) (Reps.one (show Kd.M (Kd.int .i64) _ _ _ a0_1 [.int .i64 a0_1] from rfl) (Reps.one (show Kd.M (Kd.int .i64) _ _ _ a0_2 [.int .i64 a0_2] from rfl) (Reps.none _ _))))); intro v468 w20 ho21 hb hg_ hnew_; clear hg_ hnew_; (first | rw [← Ny467.out] at ho21 | (simp only [Int.reduceToNat] at ho21; rw [← Ny467.out] at ho21)); have n0_ := Aside0.mk (Kd.R_lower ho21 (below_size (by repeat (first | (with_reducible first | exact HB.out | apply below_alloc | apply pw_below_drewN | apply below_drew1 | refine below_set ?_ GE466.out) | exact HB.out)))); have n1_ := Aside0.mk (blk_below (g := gb466) (o := .cells #[.int .i64 a0_0, .int .i64 a0_1, .int .i64 a0_2, .int .i64 a0_3, .int .i64 a0_4, .int .i64 a0_5, .int .i64 a0_6, .bool a0_7, .slice A0_8 l0_8.length c0_8, .int .i64 a0_9, .int .i64 a0_10, .int .i64 a0_11, .slice A0_12 l0_12.length c0_12, .int .i64 a0_13, .int .i64 a0_14, .int .i64 a0_15, .slice A0_16 l0_16.length c0_16] 34 (0, 0)) (by (with_reducible repeat (first | refine blk_drewN ?_ _ | refine blk_drew ?_ | refine blk_alloc ?_ _)); exact BK466.out) hb); have n2_ := Aside0.mk (below_step (by repeat (first | (with_reducible first | exact HB.out | apply below_alloc | apply pw_below_drewN | apply below_drew1 | refine below_set ?_ GE466.out) | exact HB.out)) hb); clear BK466; clear HB; have HO469 := n0_; have BK466 := n1_; have HB := n2_; clear n0_ n1_ n2_; clear hb ho21; obtain ⟨Ao22, co22, eo22⟩ := Kd.R_slice HO469.out; subst eo22) | ((with_reducible refine gate_callee (f := 97) rfl ?_); refine goesL_ (some 11) rfl rfl Tryz.func97 (by kernel_rfl) rfl #[.slice none 0 0, .slice Ao22 y467.length co22] rfl (by (try simp only [List.map_toArray, List.map_cons, List.map_nil]); first | done | rfl | (simp only [List.length_drop, List.length_take]; rfl)) ?_; (refine (trivetref04_num.calls k _ _ ([] : List Int) _ _ y467 t470 _ ?side1 ?side2 ?side3 ?side4 A2.out).mono ?_); (case side1 => exact Kd.C_nil _ _); (case side2 => exact Nat.le_refl _); (case side3 => repeat (first | exact (Kd.R_reads' HO469.out).2.2 | (with_reducible refine Kd.C_alloc ?_ _) | (with_reducible refine Kd.C_drewN ?_ _) | (with_reducible refine Kd.C_drew ?_))); (case side4 => exact (Kd.R_reads' HO469.out).2.1); rintro e w23 ⟨v471, rfl, ho0, hb⟩; refine ⟨_, rfl, ?_⟩; have n0_ := Aside0.mk (Kd.R_below (by (with_reducible repeat (first|apply Kd.R_alloc | apply Kd.R_drewN | apply Kd.R_drew)); exact HO469.out) hb); have n1_ := Aside0.mk (Kd.R_lower ho0 (below_size (by repeat (first | (with_reducible first | exact HB.out | apply below_alloc | apply pw_below_drewN | apply below_drew1 | refine below_set ?_ GE466.out) | exact HB.out)))); have n2_ := Aside0.mk (blk_below (g := gb466) (o := .cells #[.int .i64 a0_0, .int .i64 a0_1, .int .i64 a0_2, .int .i64 a0_3, .int .i64 a0_4, .int .i64 a0_5, .int .i64 a0_6, .bool a0_7, .slice A0_8 l0_8.length c0_8, .int .i64 a0_9, .int .i64 a0_10, .int .i64 a0_11, .slice A0_12 l0_12.length c0_12, .int .i64 a0_13, .int .i64 a0_14, .int .i64 a0_15, .slice A0_16 l0_16.length c0_16] 34 (0, 0)) (by (with_reducible repeat (first | refine blk_drewN ?_ _ | refine blk_drew ?_ | refine blk_alloc ?_ _)); exact BK466.out) hb); have n3_ := Aside0.mk (below_step (by repeat (first | (with_reducible first | exact HB.out | apply below_alloc | apply pw_below_drewN | apply below_drew1 | refine below_set ?_ GE466.out) | exact HB.out)) hb); clear HO469; clear BK466; clear HB; have HO469 := n0_; have HO472 := n1_; have BK466 := n2_; have HB := n3_; clear n0_ n1_ n2_ n3_; (try clear hb); (try clear hb2); (try clear hk); (try clear hi); (try clear ho0); have hcz24_0 : w23.cell? ⟨gb466, 0, none⟩ = some (.int .i64 a0_0) := (blk_cell BK466.out 0).trans rfl; have hcz24_1 : w23.cell? ⟨gb466, 1, none⟩ = some (.int .i64 a0_1) := (blk_cell BK466.out 1).trans rfl; have hcz24_2 : w23.cell? ⟨gb466, 2, none⟩ = some (.int .i64 a0_2) := (blk_cell BK466.out 2).trans rfl; have hcz24_3 : w23.cell? ⟨gb466, 3, none⟩ = some (.int .i64 a0_3) := (blk_cell BK466.out 3).trans rfl; have hcz24_4 : w23.cell? ⟨gb466, 4, none⟩ = some (.int .i64 a0_4) := (blk_cell BK466.out 4).trans rfl; have hcz24_5 : w23.cell? ⟨gb466, 5, none⟩ = some (.int .i64 a0_5) := (blk_cell BK466.out 5).trans rfl; have hcz24_6 : w23.cell? ⟨gb466, 6, none⟩ = some (.int .i64 a0_6) := (blk_cell BK466.out 6).trans rfl; have hcz24_7 : w23.cell? ⟨gb466, 7, none⟩ = some (.bool a0_7) := (blk_cell BK466.out 7).trans rfl; have hcz24_8 : w23.cell? ⟨gb466, 8, none⟩ = some (.slice A0_8 l0_8.length c0_8) := (blk_cell BK466.out 8).trans rfl; have hcz24_9 : w23.cell? ⟨gb466, 9, none⟩ = some (.int .i64 a0_9) := (blk_cell BK466.out 9).trans rfl; have hcz24_10 : w23.cell? ⟨gb466, 10, none⟩ = some (.int .i64 a0_10) := (blk_cell BK466.out 10).trans rfl; have hcz24_11 : w23.cell? ⟨gb466, 11, none⟩ = some (.int .i64 a0_11) := (blk_cell BK466.out 11).trans rfl; have hcz24_12 : w23.cell? ⟨gb466, 12, none⟩ = some (.slice A0_12 l0_12.length c0_12) := (blk_cell BK466.out 12).trans rfl; have hcz24_13 : w23.cell? ⟨gb466, 13, none⟩ = some (.int .i64 a0_13) := (blk_cell BK466.out 13).trans rfl; have hcz24_14 : w23.cell? ⟨gb466, 14, none⟩ = some (.int .i64 a0_14) := (blk_cell BK466.out 14).trans rfl; have hcz24_15 : w23.cell? ⟨gb466, 15, none⟩ = some (.int .i64 a0_15) := (blk_cell BK466.out 15).trans rfl; have hcz24_16 : w23.cell? ⟨gb466, 16, none⟩ = some (.slice A0_16 l0_16.length c0_16) := (blk_cell BK466.out 16).trans rfl; have hfz24_0 := blk_frozen BK466.out 0; have hfz24_1 := blk_frozen BK466.out 1; have hfz24_2 := blk_frozen BK466.out 2; have hfz24_3 := blk_frozen BK466.out 3; have hfz24_4 := blk_frozen BK466.out 4; have hfz24_5 := blk_frozen BK466.out 5; have hfz24_6 := blk_frozen BK466.out 6; have hfz24_7 := blk_frozen BK466.out 7; have hfz24_8 := blk_frozen BK466.out 8; have hfz24_9 := blk_frozen BK466.out 9; have hfz24_10 := blk_frozen BK466.out 10; have hfz24_11 := blk_frozen BK466.out 11; have hfz24_12 := blk_frozen BK466.out 12; have hfz24_13 := blk_frozen BK466.out 13; have hfz24_14 := blk_frozen BK466.out 14; have hfz24_15 := blk_frozen BK466.out 15; have hfz24_16 := blk_frozen BK466.out 16) | ((with_reducible refine gate_dst (N := 30) rfl ?_); refine Kd.R_lit (Kd.int .i64) _ 2 ?hg (N := 30) ?hd (xs := ([a0_3, a0_4, a0_5] : List Int)) (inner := [.int .i64 a0_3, .int .i64 a0_4, .int .i64 a0_5]) (ok := fun _ => True) (okp := fun _ => True) ?hr ?hp (fun _ hk => hk) trivial (Below.refl _ _) (Nat.le_refl _) (by simp) ?_; (case hd => rfl); (case hg => rfl); (case hr => first | (go_simp; done) | (go_simp; rfl)); (case hp => exact (Reps.one (show Kd.M (Kd.int .i64) _ _ _ a0_3 [.int .i64 a0_3] from rfl) (Reps.one (show Kd.M (Kd.int .i64) _ _ _ a0_4 [.int .i64 a0_4] from rfl) (Reps.one (show Kd.M (Kd.int .i64) _ _ _ a0_5 [.int .i64 a0_5] from rfl) (Reps.none _ _))))); intro v480 w25 ho26 hb hg_ hnew_; clear hg_ hnew_; (first | rw [← Ny479.out] at ho26 | (simp only [Int.reduceToNat] at ho26; rw [← Ny479.out] at ho26)); have n0_ := Aside0.mk (Kd.R_elder' (by (with_reducible repeat (first|apply Kd.R_alloc | apply Kd.R_drewN | apply Kd.R_drew)); exact HO469.out) (Kd.R_base ho26) hb); have n1_ := Aside0.mk (Kd.R_below (by (with_reducible repeat (first|apply Kd.R_alloc | apply Kd.R_drewN | apply Kd.R_drew)); exact HO472.out) hb); have n2_ := Aside0.mk (Kd.R_lower (Kd.R_new' ho26 (Kd.R_lt (by (with_reducible repeat (first|apply Kd.R_alloc | apply Kd.R_drewN | apply Kd.R_drew)); exact HO469.out))) (below_size (by repeat (first | (with_reducible first | exact HB.out | apply below_alloc | apply pw_below_drewN | apply below_drew1 | refine below_set ?_ GE466.out) | exact HB.out)))); have n3_ := Aside0.mk (blk_below (g := gb466) (o := .cells #[.int .i64 a0_0, .int .i64 a0_1, .int .i64 a0_2, .int .i64 a0_3, .int .i64 a0_4, .int .i64 a0_5, .int .i64 a0_6, .bool a0_7, .slice A0_8 l0_8.length c0_8, .int .i64 a0_9, .int .i64 a0_10, .int .i64 a0_11, .slice A0_12 l0_12.length c0_12, .int .i64 a0_13, .int .i64 a0_14, .int .i64 a0_15, .slice A0_16 l0_16.length c0_16] 34 (0, 0)) (by (with_reducible repeat (first | refine blk_drewN ?_ _ | refine blk_drew ?_ | refine blk_alloc ?_ _)); exact BK466.out) hb); have n4_ := Aside0.mk (below_step (by repeat (first | (with_reducible first | exact HB.out | apply below_alloc | apply pw_below_drewN | apply below_drew1 | refine below_set ?_ GE466.out) | exact HB.out)) hb); clear HO469; clear HO472; clear BK466; clear HB; have HO469 := n0_; have HO472 := n1_; have HO481 := n2_; have BK466 := n3_; have HB := n4_; clear n0_ n1_ n2_ n3_ n4_; clear hb ho26; obtain ⟨Ao27, co27, eo27⟩ := Kd.R_slice HO472.out; subst eo27; obtain ⟨Ao28, co28, eo28⟩ := Kd.R_slice HO481.out; subst eo28) | ((with_reducible refine gate_callee (f := 97) rfl ?_); refine goesL_ (some 31) rfl rfl Tryz.func97 (by kernel_rfl) rfl #[.slice Ao27 t470.length co27, .slice Ao28 y479.length co28] rfl (by (try simp only [List.map_toArray, List.map_cons, List.map_nil]); first | done | rfl | (simp only [List.length_drop, List.length_take]; rfl)) ?_; (with_reducible refine (trivetref04_num.calls k _ _ t470 _ _ y479 t482 _ ?side1 ?side2 ?side3 ?side4 A17.out).mono ?_); (case side1 => repeat (first | exact (Kd.R_reads' HO472.out).2.2 | (with_reducible refine Kd.C_alloc ?_ _) | (with_reducible refine Kd.C_drewN ?_ _) | (with_reducible refine Kd.C_drew ?_))); (case side2 => exact (Kd.R_reads' HO472.out).2.1); (case side3 => repeat (first | exact (Kd.R_reads' HO481.out).2.2 | (with_reducible refine Kd.C_alloc ?_ _) | (with_reducible refine Kd.C_drewN ?_ _) | (with_reducible refine Kd.C_drew ?_))); (case side4 => exact (Kd.R_reads' HO481.out).2.1); rintro e w29 ⟨v483, rfl, ho0, hb⟩; refine ⟨_, rfl, ?_⟩; have n0_ := Aside0.mk (Kd.R_below (by (with_reducible repeat (first|apply Kd.R_alloc | apply Kd.R_drewN | apply Kd.R_drew)); exact HO469.out) hb); have n1_ := Aside0.mk (Kd.R_elder' (by (with_reducible repeat (first|apply Kd.R_alloc | apply Kd.R_drewN | apply Kd.R_drew)); exact HO472.out) (Kd.R_base ho0) hb); have n2_ := Aside0.mk (Kd.R_below (by (with_reducible repeat (first|apply Kd.R_alloc | apply Kd.R_drewN | apply Kd.R_drew)); exact HO481.out) hb); have n3_ := Aside0.mk (Kd.R_lower (Kd.R_new' ho0 (Kd.R_lt (by (with_reducible repeat (first|apply Kd.R_alloc | apply Kd.R_drewN | apply Kd.R_drew)); exact HO472.out))) (below_size (by repeat (first | (with_reducible first | exact HB.out | apply below_alloc | apply pw_below_drewN | apply below_drew1 | refine below_set ?_ GE466.out) | exact HB.out)))); have n4_ := Aside0.mk (blk_below (g := gb466) (o := .cells #[.int .i64 a0_0, .int .i64 a0_1, .int .i64 a0_2, .int .i64 a0_3, .int .i64 a0_4, .int .i64 a0_5, .int .i64 a0_6, .bool a0_7, .slice A0_8 l0_8.length c0_8, .int .i64 a0_9, .int .i64 a0_10, .int .i64 a0_11, .slice A0_12 l0_12.length c0_12, .int .i64 a0_13, .int .i64 a0_14, .int .i64 a0_15, .slice A0_16 l0_16.length c0_16] 34 (0, 0)) (by (with_reducible repeat (first | refine blk_drewN ?_ _ | refine blk_drew ?_ | refine blk_alloc ?_ _)); exact BK466.out) hb); have n5_ := Aside0.mk (below_step (by repeat (first | (with_reducible first | exact HB.out | apply below_alloc | apply pw_below_drewN | apply below_drew1 | refine below_set ?_ GE466.out) | exact HB.out)) hb); clear HO469; clear HO472; clear HO481; clear BK466; clear HB; have HO469 := n0_; have HO472 := n1_; have HO481 := n2_; have HO484 := n3_; have BK466 := n4_; have HB := n5_; clear n0_ n1_ n2_ n3_ n4_ n5_; (try clear hb); (try clear hb2); (try clear hk); (try clear hi); (try clear ho0)))
      go_ret
      exact ⟨_, by first | rfl | (simp [errW_none, errW_some] <;> rfl) | (simp [*, errW_none, errW_some] <;> rfl), by (with_reducible repeat (first|apply Kd.R_alloc | apply Kd.R_drewN | apply Kd.R_drew)); exact Kd.R_mono HO484.out (fun _ hk => trivial), by repeat (first | (with_reducible first | exact HB.out | apply below_alloc | apply pw_below_drewN | apply below_drew1 | refine below_set ?_ GE466.out) | exact HB.out)⟩
    · rw [if_neg c16] at H
      have c16b0 : (a0_0 == 1) = false := beq_eq_false_iff_ne.mpr c16
      have c16b1 : (a0_0 != 1) = true := bne_iff_ne.mpr c16
      by_cases c30 : a0_0 = 2
      · rw [if_pos c30] at H
        have c30b0 : (a0_0 == 2) = true := beq_iff_eq.mpr c30
        have c30b1 : (a0_0 != 2) = false := bne_eq_false_iff_eq.mpr c30
        clear c30
        obtain ⟨y485, hy485⟩ : ∃ y_ : List Int, y_ = (([a0_3] : List Int)) := ⟨_, rfl⟩
        replace H : ((trivetref04_num.f k t470 y485).bind fun t488 => ((trivetref04_yes.f k t488 a0_7).bind fun t491 => (some t491))) = some r := by first | (rw [hy485]; with_reducible exact H) | (have H2_ := (Option.bind_some _ _).symm.trans H; rw [hy485]; with_reducible exact H2_) | (have H2_ := (Option.bind_some _ _).symm.trans H; with_reducible exact H2_) | with_reducible exact H | (rw [hy485]; exact H) | exact H
        have Ny485 := Aside0.mk hy485
        clear hy485
        replace H := Option.bind_eq_some_iff.mp H
        obtain ⟨t488, A310, H⟩ := H
        replace H : ((trivetref04_yes.f k t488 a0_7).bind fun t491 => (some t491)) = some r := H
        have A31 := Aside0.mk A310
        clear A310
        replace H := Option.bind_eq_some_iff.mp H
        obtain ⟨t491, A320, H⟩ := H
        replace H : (some t491) = some r := H
        have A32 := Aside0.mk A320
        clear A320
        obtain rfl := Option.some.inj H
        go_enter Tryz.func52, Tryz.ntmps52
        try go_wp2_with (first | ((with_reducible refine gate_dst (N := 1) rfl ?_); refine box_event ?hg (N := 1) ?hd (cs := #[.int .i64 a0_0, .int .i64 a0_1, .int .i64 a0_2, .int .i64 a0_3, .int .i64 a0_4, .int .i64 a0_5, .int .i64 a0_6, .bool a0_7, .slice A0_8 l0_8.length c0_8, .int .i64 a0_9, .int .i64 a0_10, .int .i64 a0_11, .slice A0_12 l0_12.length c0_12, .int .i64 a0_13, .int .i64 a0_14, .int .i64 a0_15, .slice A0_16 l0_16.length c0_16]) (t := 34) ?hr ?_; (case hd => rfl); (case hg => rfl); (case hr => first | (go_simp; done) | (go_simp; rfl)); intro gb466 hg w33 hbox hb; have n0_ := Aside0.mk (below_step (by repeat (first | (with_reducible first | exact HB.out | apply below_alloc | apply pw_below_drewN | apply below_drew1) | exact HB.out)) hb); have n1_ := Aside0.mk (hbox); have n2_ := Aside0.mk ((by rw [hg]; exact (below_size (by repeat (first | (with_reducible first | exact HB.out | apply below_alloc | apply pw_below_drewN | apply below_drew1) | exact HB.out))) : w.heap.size ≤ gb466)); have n3_ := Aside0.mk ((by rw [hg]; exact (below_size (by repeat (first | (with_reducible first | exact HB.out | apply below_alloc | apply pw_below_drewN | apply below_drew1) | exact HB.out))) : w.heap.size ≤ gb466)); clear HB; have HB := n0_; have BK466 := n1_; have GW466 := n2_; have GE466 := n3_; clear n0_ n1_ n2_ n3_; clear hb hbox hg; have hcz34_0 : w33.cell? ⟨gb466, 0, none⟩ = some (.int .i64 a0_0) := (blk_cell BK466.out 0).trans rfl; have hcz34_1 : w33.cell? ⟨gb466, 1, none⟩ = some (.int .i64 a0_1) := (blk_cell BK466.out 1).trans rfl; have hcz34_2 : w33.cell? ⟨gb466, 2, none⟩ = some (.int .i64 a0_2) := (blk_cell BK466.out 2).trans rfl; have hcz34_3 : w33.cell? ⟨gb466, 3, none⟩ = some (.int .i64 a0_3) := (blk_cell BK466.out 3).trans rfl; have hcz34_4 : w33.cell? ⟨gb466, 4, none⟩ = some (.int .i64 a0_4) := (blk_cell BK466.out 4).trans rfl; have hcz34_5 : w33.cell? ⟨gb466, 5, none⟩ = some (.int .i64 a0_5) := (blk_cell BK466.out 5).trans rfl; have hcz34_6 : w33.cell? ⟨gb466, 6, none⟩ = some (.int .i64 a0_6) := (blk_cell BK466.out 6).trans rfl; have hcz34_7 : w33.cell? ⟨gb466, 7, none⟩ = some (.bool a0_7) := (blk_cell BK466.out 7).trans rfl; have hcz34_8 : w33.cell? ⟨gb466, 8, none⟩ = some (.slice A0_8 l0_8.length c0_8) := (blk_cell BK466.out 8).trans rfl; have hcz34_9 : w33.cell? ⟨gb466, 9, none⟩ = some (.int .i64 a0_9) := (blk_cell BK466.out 9).trans rfl; have hcz34_10 : w33.cell? ⟨gb466, 10, none⟩ = some (.int .i64 a0_10) := (blk_cell BK466.out 10).trans rfl; have hcz34_11 : w33.cell? ⟨gb466, 11, none⟩ = some (.int .i64 a0_11) := (blk_cell BK466.out 11).trans rfl; have hcz34_12 : w33.cell? ⟨gb466, 12, none⟩ = some (.slice A0_12 l0_12.length c0_12) := (blk_cell BK466.out 12).trans rfl; have hcz34_13 : w33.cell? ⟨gb466, 13, none⟩ = some (.int .i64 a0_13) := (blk_cell BK466.out 13).trans rfl; have hcz34_14 : w33.cell? ⟨gb466, 14, none⟩ = some (.int .i64 a0_14) := (blk_cell BK466.out 14).trans rfl; have hcz34_15 : w33.cell? ⟨gb466, 15, none⟩ = some (.int .i64 a0_15) := (blk_cell BK466.out 15).trans rfl; have hcz34_16 : w33.cell? ⟨gb466, 16, none⟩ = some (.slice A0_16 l0_16.length c0_16) := (blk_cell BK466.out 16).trans rfl; have hfz34_0 := blk_frozen BK466.out 0; have hfz34_1 := blk_frozen BK466.out 1; have hfz34_2 := blk_frozen BK466.out 2; have hfz34_3 := blk_frozen BK466.out 3; have hfz34_4 := blk_frozen BK466.out 4; have hfz34_5 := blk_frozen BK466.out 5; have hfz34_6 := blk_frozen BK466.out 6; have hfz34_7 := blk_frozen BK466.out 7; have hfz34_8 := blk_frozen BK466.out 8; have hfz34_9 := blk_frozen BK466.out 9; have hfz34_10 := blk_frozen BK466.out 10; have hfz34_11 := blk_frozen BK466.out 11; have hfz34_12 := blk_frozen BK466.out 12; have hfz34_13 := blk_frozen BK466.out 13; have hfz34_14 := blk_frozen BK466.out 14; have hfz34_15 := blk_frozen BK466.out 15; have hfz34_16 := blk_frozen BK466.out 16) | ((with_reducible refine gate_dst (N := 10) rfl ?_); refine Kd.R_lit (Kd.int .i64) _ 2 ?hg (N := 10) ?hd (xs := ([a0_0, a0_1, a0_2] : List Int)) (inner := [.int .i64 a0_0, .int .i64 a0_1, .int .i64 a0_2]) (ok := fun _ => True) (okp := fun _ => True) ?hr ?hp (fun _ hk => hk) trivial (Below.refl _ _) (Nat.le_refl _) (by simp) ?_; (case hd => rfl); (case hg => rfl); (case hr => first | (go_simp; done) | (go_simp; rfl)); (case hp => exact (Reps.one (show Kd.M (Kd.int .i64) _ _ _ a0_0 [.int .i64 a0_0] from rfl) (Reps.one (show Kd.M (Kd.int .i64) _ _ _ a0_1 [.int .i64 a0_1] from rfl) (Reps.one (show Kd.M (Kd.int .i64) _ _ _ a0_2 [.int .i64 a0_2] from rfl) (Reps.none _ _))))); intro v468 w35 ho36 hb hg_ hnew_; clear hg_ hnew_; (first | rw [← Ny467.out] at ho36 | (simp only [Int.reduceToNat] at ho36; rw [← Ny467.out] at ho36)); have n0_ := Aside0.mk (Kd.R_lower ho36 (below_size (by repeat (first | (with_reducible first | exact HB.out | apply below_alloc | apply pw_below_drewN | apply below_drew1 | refine below_set ?_ GE466.out) | exact HB.out)))); have n1_ := Aside0.mk (blk_below (g := gb466) (o := .cells #[.int .i64 a0_0, .int .i64 a0_1, .int .i64 a0_2, .int .i64 a0_3, .int .i64 a0_4, .int .i64 a0_5, .int .i64 a0_6, .bool a0_7, .slice A0_8 l0_8.length c0_8, .int .i64 a0_9, .int .i64 a0_10, .int .i64 a0_11, .slice A0_12 l0_12.length c0_12, .int .i64 a0_13, .int .i64 a0_14, .int .i64 a0_15, .slice A0_16 l0_16.length c0_16] 34 (0, 0)) (by (with_reducible repeat (first | refine blk_drewN ?_ _ | refine blk_drew ?_ | refine blk_alloc ?_ _)); exact BK466.out) hb); have n2_ := Aside0.mk (below_step (by repeat (first | (with_reducible first | exact HB.out | apply below_alloc | apply pw_below_drewN | apply below_drew1 | refine below_set ?_ GE466.out) | exact HB.out)) hb); clear BK466; clear HB; have HO469 := n0_; have BK466 := n1_; have HB := n2_; clear n0_ n1_ n2_; clear hb ho36; obtain ⟨Ao37, co37, eo37⟩ := Kd.R_slice HO469.out; subst eo37) | ((with_reducible refine gate_callee (f := 97) rfl ?_); refine goesL_ (some 11) rfl rfl Tryz.func97 (by kernel_rfl) rfl #[.slice none 0 0, .slice Ao37 y467.length co37] rfl (by (try simp only [List.map_toArray, List.map_cons, List.map_nil]); first | done | rfl | (simp only [List.length_drop, List.length_take]; rfl)) ?_; (refine (trivetref04_num.calls k _ _ ([] : List Int) _ _ y467 t470 _ ?side1 ?side2 ?side3 ?side4 A2.out).mono ?_); (case side1 => exact Kd.C_nil _ _); (case side2 => exact Nat.le_refl _); (case side3 => repeat (first | exact (Kd.R_reads' HO469.out).2.2 | (with_reducible refine Kd.C_alloc ?_ _) | (with_reducible refine Kd.C_drewN ?_ _) | (with_reducible refine Kd.C_drew ?_))); (case side4 => exact (Kd.R_reads' HO469.out).2.1); rintro e w38 ⟨v471, rfl, ho0, hb⟩; refine ⟨_, rfl, ?_⟩; have n0_ := Aside0.mk (Kd.R_below (by (with_reducible repeat (first|apply Kd.R_alloc | apply Kd.R_drewN | apply Kd.R_drew)); exact HO469.out) hb); have n1_ := Aside0.mk (Kd.R_lower ho0 (below_size (by repeat (first | (with_reducible first | exact HB.out | apply below_alloc | apply pw_below_drewN | apply below_drew1 | refine below_set ?_ GE466.out) | exact HB.out)))); have n2_ := Aside0.mk (blk_below (g := gb466) (o := .cells #[.int .i64 a0_0, .int .i64 a0_1, .int .i64 a0_2, .int .i64 a0_3, .int .i64 a0_4, .int .i64 a0_5, .int .i64 a0_6, .bool a0_7, .slice A0_8 l0_8.length c0_8, .int .i64 a0_9, .int .i64 a0_10, .int .i64 a0_11, .slice A0_12 l0_12.length c0_12, .int .i64 a0_13, .int .i64 a0_14, .int .i64 a0_15, .slice A0_16 l0_16.length c0_16] 34 (0, 0)) (by (with_reducible repeat (first | refine blk_drewN ?_ _ | refine blk_drew ?_ | refine blk_alloc ?_ _)); exact BK466.out) hb); have n3_ := Aside0.mk (below_step (by repeat (first | (with_reducible first | exact HB.out | apply below_alloc | apply pw_below_drewN | apply below_drew1 | refine below_set ?_ GE466.out) | exact HB.out)) hb); clear HO469; clear BK466; clear HB; have HO469 := n0_; have HO472 := n1_; have BK466 := n2_; have HB := n3_; clear n0_ n1_ n2_ n3_; (try clear hb); (try clear hb2); (try clear hk); (try clear hi); (try clear ho0); have hcz39_0 : w38.cell? ⟨gb466, 0, none⟩ = some (.int .i64 a0_0) := (blk_cell BK466.out 0).trans rfl; have hcz39_1 : w38.cell? ⟨gb466, 1, none⟩ = some (.int .i64 a0_1) := (blk_cell BK466.out 1).trans rfl; have hcz39_2 : w38.cell? ⟨gb466, 2, none⟩ = some (.int .i64 a0_2) := (blk_cell BK466.out 2).trans rfl; have hcz39_3 : w38.cell? ⟨gb466, 3, none⟩ = some (.int .i64 a0_3) := (blk_cell BK466.out 3).trans rfl; have hcz39_4 : w38.cell? ⟨gb466, 4, none⟩ = some (.int .i64 a0_4) := (blk_cell BK466.out 4).trans rfl; have hcz39_5 : w38.cell? ⟨gb466, 5, none⟩ = some (.int .i64 a0_5) := (blk_cell BK466.out 5).trans rfl; have hcz39_6 : w38.cell? ⟨gb466, 6, none⟩ = some (.int .i64 a0_6) := (blk_cell BK466.out 6).trans rfl; have hcz39_7 : w38.cell? ⟨gb466, 7, none⟩ = some (.bool a0_7) := (blk_cell BK466.out 7).trans rfl; have hcz39_8 : w38.cell? ⟨gb466, 8, none⟩ = some (.slice A0_8 l0_8.length c0_8) := (blk_cell BK466.out 8).trans rfl; have hcz39_9 : w38.cell? ⟨gb466, 9, none⟩ = some (.int .i64 a0_9) := (blk_cell BK466.out 9).trans rfl; have hcz39_10 : w38.cell? ⟨gb466, 10, none⟩ = some (.int .i64 a0_10) := (blk_cell BK466.out 10).trans rfl; have hcz39_11 : w38.cell? ⟨gb466, 11, none⟩ = some (.int .i64 a0_11) := (blk_cell BK466.out 11).trans rfl; have hcz39_12 : w38.cell? ⟨gb466, 12, none⟩ = some (.slice A0_12 l0_12.length c0_12) := (blk_cell BK466.out 12).trans rfl; have hcz39_13 : w38.cell? ⟨gb466, 13, none⟩ = some (.int .i64 a0_13) := (blk_cell BK466.out 13).trans rfl; have hcz39_14 : w38.cell? ⟨gb466, 14, none⟩ = some (.int .i64 a0_14) := (blk_cell BK466.out 14).trans rfl; have hcz39_15 : w38.cell? ⟨gb466, 15, none⟩ = some (.int .i64 a0_15) := (blk_cell BK466.out 15).trans rfl; have hcz39_16 : w38.cell? ⟨gb466, 16, none⟩ = some (.slice A0_16 l0_16.length c0_16) := (blk_cell BK466.out 16).trans rfl; have hfz39_0 := blk_frozen BK466.out 0; have hfz39_1 := blk_frozen BK466.out 1; have hfz39_2 := blk_frozen BK466.out 2; have hfz39_3 := blk_frozen BK466.out 3; have hfz39_4 := blk_frozen BK466.out 4; have hfz39_5 := blk_frozen BK466.out 5; have hfz39_6 := blk_frozen BK466.out 6; have hfz39_7 := blk_frozen BK466.out 7; have hfz39_8 := blk_frozen BK466.out 8; have hfz39_9 := blk_frozen BK466.out 9; have hfz39_10 := blk_frozen BK466.out 10; have hfz39_11 := blk_frozen BK466.out 11; have hfz39_12 := blk_frozen BK466.out 12; have hfz39_13 := blk_frozen BK466.out 13; have hfz39_14 := blk_frozen BK466.out 14; have hfz39_15 := blk_frozen BK466.out 15; have hfz39_16 := blk_frozen BK466.out 16))
        have n0_ := Aside0.mk (Kd.R_drew HO469.out)
        have n1_ := Aside0.mk (Kd.R_drew HO472.out)
        have n2_ := Aside0.mk (blk_drew BK466.out)
        have n3_ := Aside0.mk (below_drew1 HB.out)
        clear HO469
        clear HO472
        clear BK466
        clear HB
        have HO469 := n0_
        have HO472 := n1_
        have BK466 := n2_
        have HB := n3_
        clear n0_ n1_ n2_ n3_
        refine start_ (n := 9) (S := fun w' => w'.cell? ⟨gb466, 0, none⟩ = some (.int .i64 a0_0) ∧ w'.cell? ⟨gb466, 1, none⟩ = some (.int .i64 a0_1) ∧ w'.cell? ⟨gb466, 2, none⟩ = some (.int .i64 a0_2) ∧ w'.cell? ⟨gb466, 3, none⟩ = some (.int .i64 a0_3) ∧ w'.cell? ⟨gb466, 4, none⟩ = some (.int .i64 a0_4) ∧ w'.cell? ⟨gb466, 5, none⟩ = some (.int .i64 a0_5) ∧ w'.cell? ⟨gb466, 6, none⟩ = some (.int .i64 a0_6) ∧ w'.cell? ⟨gb466, 7, none⟩ = some (.bool a0_7) ∧ w'.cell? ⟨gb466, 8, none⟩ = some (.slice A0_8 l0_8.length c0_8) ∧ w'.cell? ⟨gb466, 9, none⟩ = some (.int .i64 a0_9) ∧ w'.cell? ⟨gb466, 10, none⟩ = some (.int .i64 a0_10) ∧ w'.cell? ⟨gb466, 11, none⟩ = some (.int .i64 a0_11) ∧ w'.cell? ⟨gb466, 12, none⟩ = some (.slice A0_12 l0_12.length c0_12) ∧ w'.cell? ⟨gb466, 13, none⟩ = some (.int .i64 a0_13) ∧ w'.cell? ⟨gb466, 14, none⟩ = some (.int .i64 a0_14) ∧ w'.cell? ⟨gb466, 15, none⟩ = some (.int .i64 a0_15) ∧ w'.cell? ⟨gb466, 16, none⟩ = some (.slice A0_16 l0_16.length c0_16)) (ds := []) #[false, false, false, false, false, false, false, false, false] (by kernel_rfl) rfl rfl ⟨(blk_cell BK466.out 0).trans rfl, (blk_cell BK466.out 1).trans rfl, (blk_cell BK466.out 2).trans rfl, (blk_cell BK466.out 3).trans rfl, (blk_cell BK466.out 4).trans rfl, (blk_cell BK466.out 5).trans rfl, (blk_cell BK466.out 6).trans rfl, (blk_cell BK466.out 7).trans rfl, (blk_cell BK466.out 8).trans rfl, (blk_cell BK466.out 9).trans rfl, (blk_cell BK466.out 10).trans rfl, (blk_cell BK466.out 11).trans rfl, (blk_cell BK466.out 12).trans rfl, (blk_cell BK466.out 13).trans rfl, (blk_cell BK466.out 14).trans rfl, (blk_cell BK466.out 15).trans rfl, (blk_cell BK466.out 16).trans rfl⟩ (fun hHeld => ?_); refine with_tabW trivetref04_MsgForm.tab8 trivetref04_MsgForm.bits8 (fun HT_ HW_ => ?_)
        generalize w38.drew = w40 at HO469 HO472 BK466 HB hHeld ⊢
        refine pure_ (i := 0) (N := some 34) (v := ?_) (a' := ?_) #[true, false, false, false, false, false, false, false, false] rfl rfl (any_of HT_.out (by kernel_rfl)) (fun _ _ _ h => h) (Or.inl ⟨by rfl, ?_⟩) ?_ ?_
        rotate_left
        · intro w'
          go_simp
          with_reducible rfl
        rotate_left
        · simp only [Act.put, List.setIfInBounds_toArray, List.set_cons_zero, List.set_cons_succ, i64_w, i32_w]
          rfl
        refine pure_ (i := 1) (N := some 35) (v := ?_) (a' := ?_) #[true, true, false, false, false, false, false, false, false] rfl rfl (any_of HT_.out (by kernel_rfl)) (fun _ _ _ h => h) (Or.inl ⟨by rfl, ?_⟩) ?_ ?_
        rotate_left
        · intro w'
          go_simp
          with_reducible rfl
        rotate_left
        · simp only [Act.put, List.setIfInBounds_toArray, List.set_cons_zero, List.set_cons_succ, i64_w, i32_w]
          rfl
        refine pure_ (i := 5) (N := some 39) (v := ?_) (a' := ?_) #[true, true, false, false, false, true, false, false, false] rfl rfl (any_of HT_.out (by kernel_rfl)) (fun _ _ _ h => h) (Or.inl ⟨by rfl, ?_⟩) ?_ ?_
        rotate_left
        · intro w'
          go_simp
          with_reducible rfl
        rotate_left
        · simp only [Act.put, List.setIfInBounds_toArray, List.set_cons_zero, List.set_cons_succ, i64_w, i32_w]
          rfl
        refine take_ (i := 2) (N := some 36) (v := ?_) (a' := ?_) #[true, true, true, false, false, true, false, false, false] rfl rfl (take_ofW HT_.out HW_.out (by kernel_rfl)) (fun _ _ _ h => h) (Or.inl ⟨by rfl, ?_⟩) hHeld ?_ ?_
        rotate_left
        · rintro w' ⟨s0, s1, s2, s3, s4, s5, s6, s7, s8, s9, s10, s11, s12, s13, s14, s15, s16⟩
          go_simp
          with_reducible rfl
        rotate_left
        · simp only [Act.put, List.setIfInBounds_toArray, List.set_cons_zero, List.set_cons_succ, i64_w, i32_w]
          rfl
        refine take_ (i := 6) (N := some 40) (v := ?_) (a' := ?_) #[true, true, true, false, false, true, true, false, false] rfl rfl (take_ofW HT_.out HW_.out (by kernel_rfl)) (fun _ _ _ h => h) (Or.inl ⟨by rfl, ?_⟩) hHeld ?_ ?_
        rotate_left
        · rintro w' ⟨s0, s1, s2, s3, s4, s5, s6, s7, s8, s9, s10, s11, s12, s13, s14, s15, s16⟩
          go_simp
          with_reducible rfl
        rotate_left
        · simp only [Act.put, List.setIfInBounds_toArray, List.set_cons_zero, List.set_cons_succ, i64_w, i32_w]
          rfl
        refine one_ (i := 3) (N := some 37) #[true, true, true, true, false, true, true, false, false] rfl rfl (one_of HT_.out (by kernel_rfl)) (by decide) (fun K hK => ?_)
        refine Kd.R_lit_step (Kd.int .i64) _ 2 ?hg (N := 37) ?hd (xs := ([a0_3] : List Int)) (inner := [.int .i64 a0_3]) (ok := fun _ => True) (okp := fun _ => True) ?hr ?hp (fun _ hk => hk) trivial (Below.refl _ _) (Nat.le_refl _) (by simp) ?_; (case hd => rfl); (case hg => rfl); (case hr => first | (go_simp; done) | (go_simp; rfl)); (case hp => exact (Reps.one (show Kd.M (Kd.int .i64) _ _ _ a0_3 [.int .i64 a0_3] from rfl) (Reps.none _ _)))
        intro v486 w41 ho42 hb hg_ hnew_
        clear hg_ hnew_
        (first | rw [← Ny485.out] at ho42 | (simp only [Int.reduceToNat] at ho42; rw [← Ny485.out] at ho42))
        have n0_ := Aside0.mk (Kd.R_elder' (by (with_reducible repeat (first|apply Kd.R_alloc | apply Kd.R_drewN | apply Kd.R_drew)); exact HO469.out) (Kd.R_base ho42) hb)
        have n1_ := Aside0.mk (Kd.R_below (by (with_reducible repeat (first|apply Kd.R_alloc | apply Kd.R_drewN | apply Kd.R_drew)); exact HO472.out) hb)
        have n2_ := Aside0.mk (Kd.R_lower (Kd.R_new' ho42 (Kd.R_lt (by (with_reducible repeat (first|apply Kd.R_alloc | apply Kd.R_drewN | apply Kd.R_drew)); exact HO469.out))) (below_size (by repeat (first | (with_reducible first | exact HB.out | apply below_alloc | apply pw_below_drewN | apply below_drew1 | refine below_set ?_ GE466.out) | exact HB.out))))
        have n3_ := Aside0.mk (blk_below (g := gb466) (o := .cells #[.int .i64 a0_0, .int .i64 a0_1, .int .i64 a0_2, .int .i64 a0_3, .int .i64 a0_4, .int .i64 a0_5, .int .i64 a0_6, .bool a0_7, .slice A0_8 l0_8.length c0_8, .int .i64 a0_9, .int .i64 a0_10, .int .i64 a0_11, .slice A0_12 l0_12.length c0_12, .int .i64 a0_13, .int .i64 a0_14, .int .i64 a0_15, .slice A0_16 l0_16.length c0_16] 34 (0, 0)) (by (with_reducible repeat (first | refine blk_drewN ?_ _ | refine blk_drew ?_ | refine blk_alloc ?_ _)); exact BK466.out) hb)
        have n4_ := Aside0.mk (below_step (by repeat (first | (with_reducible first | exact HB.out | apply below_alloc | apply pw_below_drewN | apply below_drew1 | refine below_set ?_ GE466.out) | exact HB.out)) hb)
        clear HO469
        clear HO472
        clear BK466
        clear HB
        have HO469 := n0_
        have HO472 := n1_
        have HO487 := n2_
        have BK466 := n3_
        have HB := n4_
        clear n0_ n1_ n2_ n3_ n4_
        clear hb ho42
        obtain ⟨Ao43, co43, eo43⟩ := Kd.R_slice HO472.out
        (first | subst eo43 | (injection eo43 with f1_ f2_ f3_; have f4_ := f1_.symm; have f5_ := f3_.symm; clear f1_ f2_ f3_; subst f4_; subst f5_))
        obtain ⟨Ao44, co44, eo44⟩ := Kd.R_slice HO487.out
        (first | subst eo44 | (injection eo44 with f1_ f2_ f3_; have f4_ := f1_.symm; have f5_ := f3_.symm; clear f1_ f2_ f3_; subst f4_; subst f5_))
        refine hK.out _ _ ⟨(blk_cell BK466.out 0).trans rfl, (blk_cell BK466.out 1).trans rfl, (blk_cell BK466.out 2).trans rfl, (blk_cell BK466.out 3).trans rfl, (blk_cell BK466.out 4).trans rfl, (blk_cell BK466.out 5).trans rfl, (blk_cell BK466.out 6).trans rfl, (blk_cell BK466.out 7).trans rfl, (blk_cell BK466.out 8).trans rfl, (blk_cell BK466.out 9).trans rfl, (blk_cell BK466.out 10).trans rfl, (blk_cell BK466.out 11).trans rfl, (blk_cell BK466.out 12).trans rfl, (blk_cell BK466.out 13).trans rfl, (blk_cell BK466.out 14).trans rfl, (blk_cell BK466.out 15).trans rfl, (blk_cell BK466.out 16).trans rfl⟩ (fun hHeld => ?_)
        clear hK K
        refine norm_ (a' := ?_) ?_ ?_
        rotate_left
        · show Act.put _ (some 37) _ = _
          simp only [Act.put, List.setIfInBounds_toArray, List.set_cons_zero, List.set_cons_succ, i64_w, i32_w]
          rfl
        refine one_ (i := 4) (N := some 38) #[true, true, true, true, true, true, true, false, false] rfl rfl (one_of HT_.out (by kernel_rfl)) (by decide) (fun K hK => ?_)
        refine goes_ Tryz.func97 (by kernel_rfl) rfl #[.slice Ao43 t470.length co43, .slice Ao44 y485.length co44] (by rfl) rfl rfl (by (try simp only [List.map_toArray, List.map_cons, List.map_nil]); first | done | rfl | (simp only [List.length_drop, List.length_take]; rfl)) ?_
        with_reducible refine (trivetref04_num.calls k _ _ t470 _ _ y485 t488 _ ?side1 ?side2 ?side3 ?side4 A31.out).mono ?_
        (case side1 => repeat (first | exact (Kd.R_reads' HO472.out).2.2 | (with_reducible refine Kd.C_alloc ?_ _) | (with_reducible refine Kd.C_drewN ?_ _) | (with_reducible refine Kd.C_drew ?_)))
        (case side2 => exact (Kd.R_reads' HO472.out).2.1)
        (case side3 => repeat (first | exact (Kd.R_reads' HO487.out).2.2 | (with_reducible refine Kd.C_alloc ?_ _) | (with_reducible refine Kd.C_drewN ?_ _) | (with_reducible refine Kd.C_drew ?_)))
        (case side4 => exact (Kd.R_reads' HO487.out).2.1)
        rintro e w45 ⟨v489, rfl, ho0, hb⟩
        refine ⟨_, rfl, ?_⟩
        have n0_ := Aside0.mk (Kd.R_below (by (with_reducible repeat (first|apply Kd.R_alloc | apply Kd.R_drewN | apply Kd.R_drew)); exact HO469.out) hb)
        have n1_ := Aside0.mk (Kd.R_elder' (by (with_reducible repeat (first|apply Kd.R_alloc | apply Kd.R_drewN | apply Kd.R_drew)); exact HO472.out) (Kd.R_base ho0) hb)
        have n2_ := Aside0.mk (Kd.R_below (by (with_reducible repeat (first|apply Kd.R_alloc | apply Kd.R_drewN | apply Kd.R_drew)); exact HO487.out) hb)
        have n3_ := Aside0.mk (Kd.R_lower (Kd.R_new' ho0 (Kd.R_lt (by (with_reducible repeat (first|apply Kd.R_alloc | apply Kd.R_drewN | apply Kd.R_drew)); exact HO472.out))) (below_size (by repeat (first | (with_reducible first | exact HB.out | apply below_alloc | apply pw_below_drewN | apply below_drew1 | refine below_set ?_ GE466.out) | exact HB.out))))
        have n4_ := Aside0.mk (blk_below (g := gb466) (o := .cells #[.int .i64 a0_0, .int .i64 a0_1, .int .i64 a0_2, .int .i64 a0_3, .int .i64 a0_4, .int .i64 a0_5, .int .i64 a0_6, .bool a0_7, .slice A0_8 l0_8.length c0_8, .int .i64 a0_9, .int .i64 a0_10, .int .i64 a0_11, .slice A0_12 l0_12.length c0_12, .int .i64 a0_13, .int .i64 a0_14, .int .i64 a0_15, .slice A0_16 l0_16.length c0_16] 34 (0, 0)) (by (with_reducible repeat (first | refine blk_drewN ?_ _ | refine blk_drew ?_ | refine blk_alloc ?_ _)); exact BK466.out) hb)
        have n5_ := Aside0.mk (below_step (by repeat (first | (with_reducible first | exact HB.out | apply below_alloc | apply pw_below_drewN | apply below_drew1 | refine below_set ?_ GE466.out) | exact HB.out)) hb)
        clear HO469
        clear HO472
        clear HO487
        clear BK466
        clear HB
        have HO469 := n0_
        have HO472 := n1_
        have HO487 := n2_
        have HO490 := n3_
        have BK466 := n4_
        have HB := n5_
        clear n0_ n1_ n2_ n3_ n4_ n5_
        (try clear hb)
        (try clear hb2)
        (try clear hk)
        (try clear hi)
        (try clear ho0)
        obtain ⟨Ao46, co46, eo46⟩ := Kd.R_slice HO490.out
        (first | subst eo46 | (injection eo46 with f1_ f2_ f3_; have f4_ := f1_.symm; have f5_ := f3_.symm; clear f1_ f2_ f3_; subst f4_; subst f5_))
        refine hK.out _ _ ⟨(blk_cell BK466.out 0).trans rfl, (blk_cell BK466.out 1).trans rfl, (blk_cell BK466.out 2).trans rfl, (blk_cell BK466.out 3).trans rfl, (blk_cell BK466.out 4).trans rfl, (blk_cell BK466.out 5).trans rfl, (blk_cell BK466.out 6).trans rfl, (blk_cell BK466.out 7).trans rfl, (blk_cell BK466.out 8).trans rfl, (blk_cell BK466.out 9).trans rfl, (blk_cell BK466.out 10).trans rfl, (blk_cell BK466.out 11).trans rfl, (blk_cell BK466.out 12).trans rfl, (blk_cell BK466.out 13).trans rfl, (blk_cell BK466.out 14).trans rfl, (blk_cell BK466.out 15).trans rfl, (blk_cell BK466.out 16).trans rfl⟩ (fun hHeld => ?_)
        clear hK K
        refine norm_ (a' := ?_) ?_ ?_
        rotate_left
        · show Act.put _ (some 38) _ = _
          simp only [Act.put, List.setIfInBounds_toArray, List.set_cons_zero, List.set_cons_succ, i64_w, i32_w]
          rfl
        refine one_ (i := 7) (N := some 41) #[true, true, true, true, true, true, true, true, false] rfl rfl (one_of HT_.out (by kernel_rfl)) (by decide) (fun K hK => ?_)
        refine goes_ Tryz.func104 (by kernel_rfl) rfl #[.slice Ao46 t488.length co46, .bool a0_7] (by rfl) rfl rfl (by (try simp only [List.map_toArray, List.map_cons, List.map_nil]); first | done | rfl | (simp only [List.length_drop, List.length_take]; rfl)) ?_
        with_reducible refine (trivetref04_yes.calls k _ _ t488 a0_7 t491 _ ?side1 ?side2 A32.out).mono ?_
        (case side1 => repeat (first | exact (Kd.R_reads' HO490.out).2.2 | (with_reducible refine Kd.C_alloc ?_ _) | (with_reducible refine Kd.C_drewN ?_ _) | (with_reducible refine Kd.C_drew ?_)))
        (case side2 => exact (Kd.R_reads' HO490.out).2.1)
        rintro e w47 ⟨v492, rfl, ho0, hb⟩
        refine ⟨_, rfl, ?_⟩
        have n0_ := Aside0.mk (Kd.R_below (by (with_reducible repeat (first|apply Kd.R_alloc | apply Kd.R_drewN | apply Kd.R_drew)); exact HO469.out) hb)
        have n1_ := Aside0.mk (Kd.R_elder' (by (with_reducible repeat (first|apply Kd.R_alloc | apply Kd.R_drewN | apply Kd.R_drew)); exact HO472.out) (Kd.R_base ho0) hb)
        have n2_ := Aside0.mk (Kd.R_below (by (with_reducible repeat (first|apply Kd.R_alloc | apply Kd.R_drewN | apply Kd.R_drew)); exact HO487.out) hb)
        have n3_ := Aside0.mk (Kd.R_elder' (by (with_reducible repeat (first|apply Kd.R_alloc | apply Kd.R_drewN | apply Kd.R_drew)); exact HO490.out) (Kd.R_base ho0) hb)
        have n4_ := Aside0.mk (Kd.R_lower (Kd.R_new' (Kd.R_new' ho0 (Kd.R_lt (by (with_reducible repeat (first|apply Kd.R_alloc | apply Kd.R_drewN | apply Kd.R_drew)); exact HO472.out))) (Kd.R_lt (by (with_reducible repeat (first|apply Kd.R_alloc | apply Kd.R_drewN | apply Kd.R_drew)); exact HO490.out))) (below_size (by repeat (first | (with_reducible first | exact HB.out | apply below_alloc | apply pw_below_drewN | apply below_drew1 | refine below_set ?_ GE466.out) | exact HB.out))))
        have n5_ := Aside0.mk (blk_below (g := gb466) (o := .cells #[.int .i64 a0_0, .int .i64 a0_1, .int .i64 a0_2, .int .i64 a0_3, .int .i64 a0_4, .int .i64 a0_5, .int .i64 a0_6, .bool a0_7, .slice A0_8 l0_8.length c0_8, .int .i64 a0_9, .int .i64 a0_10, .int .i64 a0_11, .slice A0_12 l0_12.length c0_12, .int .i64 a0_13, .int .i64 a0_14, .int .i64 a0_15, .slice A0_16 l0_16.length c0_16] 34 (0, 0)) (by (with_reducible repeat (first | refine blk_drewN ?_ _ | refine blk_drew ?_ | refine blk_alloc ?_ _)); exact BK466.out) hb)
        have n6_ := Aside0.mk (below_step (by repeat (first | (with_reducible first | exact HB.out | apply below_alloc | apply pw_below_drewN | apply below_drew1 | refine below_set ?_ GE466.out) | exact HB.out)) hb)
        clear HO469
        clear HO472
        clear HO487
        clear HO490
        clear BK466
        clear HB
        have HO469 := n0_
        have HO472 := n1_
        have HO487 := n2_
        have HO490 := n3_
        have HO493 := n4_
        have BK466 := n5_
        have HB := n6_
        clear n0_ n1_ n2_ n3_ n4_ n5_ n6_
        (try clear hb)
        (try clear hb2)
        (try clear hk)
        (try clear hi)
        (try clear ho0)
        refine hK.out _ _ ⟨(blk_cell BK466.out 0).trans rfl, (blk_cell BK466.out 1).trans rfl, (blk_cell BK466.out 2).trans rfl, (blk_cell BK466.out 3).trans rfl, (blk_cell BK466.out 4).trans rfl, (blk_cell BK466.out 5).trans rfl, (blk_cell BK466.out 6).trans rfl, (blk_cell BK466.out 7).trans rfl, (blk_cell BK466.out 8).trans rfl, (blk_cell BK466.out 9).trans rfl, (blk_cell BK466.out 10).trans rfl, (blk_cell BK466.out 11).trans rfl, (blk_cell BK466.out 12).trans rfl, (blk_cell BK466.out 13).trans rfl, (blk_cell BK466.out 14).trans rfl, (blk_cell BK466.out 15).trans rfl, (blk_cell BK466.out 16).trans rfl⟩ (fun hHeld => ?_)
        clear hK K
        refine norm_ (a' := ?_) ?_ ?_
        rotate_left
        · show Act.put _ (some 41) _ = _
          simp only [Act.put, List.setIfInBounds_toArray, List.set_cons_zero, List.set_cons_succ, i64_w, i32_w]
          rfl
        refine pure_ (i := 8) (N := some 2) (v := ?_) (a' := ?_) #[true, true, true, true, true, true, true, true, true] rfl rfl (any_of HT_.out (by kernel_rfl)) (fun _ _ _ h => h) (Or.inl ⟨by rfl, ?_⟩) ?_ ?_
        rotate_left
        · intro w'
          go_simp
          with_reducible rfl
        rotate_left
        · simp only [Act.put, List.setIfInBounds_toArray, List.set_cons_zero, List.set_cons_succ, i64_w, i32_w]
          rfl
        refine done_ (done_of HT_.out (by kernel_rfl)) ?_
        try go_wp2
        go_ret
        exact ⟨_, by first | rfl | (simp [errW_none, errW_some] <;> rfl) | (simp [*, errW_none, errW_some] <;> rfl), by (with_reducible repeat (first|apply Kd.R_alloc | apply Kd.R_drewN | apply Kd.R_drew)); exact Kd.R_mono HO493.out (fun _ hk => trivial), by repeat (first | (with_reducible first | exact HB.out | apply below_alloc | apply pw_below_drewN | apply below_drew1 | refine below_set ?_ GE466.out) | exact HB.out)⟩
      · rw [if_neg c30] at H
        have c30b0 : (a0_0 == 2) = false := beq_eq_false_iff_ne.mpr c30
        have c30b1 : (a0_0 != 2) = true := bne_iff_ne.mpr c30
        by_cases c48 : a0_0 = 3
        · rw [if_pos c48] at H
          have c48b0 : (a0_0 == 3) = true := beq_iff_eq.mpr c48
          have c48b1 : (a0_0 != 3) = false := bne_eq_false_iff_eq.mpr c48
          clear c48
          obtain ⟨y494, hy494⟩ : ∃ y_ : List Int, y_ = (([a0_3, a0_4, a0_5, a0_6] : List Int)) := ⟨_, rfl⟩
          replace H : ((trivetref04_num.f k t470 y494).bind fun t497 => ((trivetref04_lists.f k t497 l0_8).bind fun t500 => (some t500))) = some r := by first | (rw [hy494]; with_reducible exact H) | (have H2_ := (Option.bind_some _ _).symm.trans H; rw [hy494]; with_reducible exact H2_) | (have H2_ := (Option.bind_some _ _).symm.trans H; with_reducible exact H2_) | with_reducible exact H | (rw [hy494]; exact H) | exact H
          have Ny494 := Aside0.mk hy494
          clear hy494
          replace H := Option.bind_eq_some_iff.mp H
          obtain ⟨t497, A490, H⟩ := H
          replace H : ((trivetref04_lists.f k t497 l0_8).bind fun t500 => (some t500)) = some r := H
          have A49 := Aside0.mk A490
          clear A490
          replace H := Option.bind_eq_some_iff.mp H
          obtain ⟨t500, A500, H⟩ := H
          replace H : (some t500) = some r := H
          have A50 := Aside0.mk A500
          clear A500
          obtain rfl := Option.some.inj H
          go_enter Tryz.func52, Tryz.ntmps52
          try go_wp2_with (first | ((with_reducible refine gate_dst (N := 1) rfl ?_); refine box_event ?hg (N := 1) ?hd (cs := #[.int .i64 a0_0, .int .i64 a0_1, .int .i64 a0_2, .int .i64 a0_3, .int .i64 a0_4, .int .i64 a0_5, .int .i64 a0_6, .bool a0_7, .slice A0_8 l0_8.length c0_8, .int .i64 a0_9, .int .i64 a0_10, .int .i64 a0_11, .slice A0_12 l0_12.length c0_12, .int .i64 a0_13, .int .i64 a0_14, .int .i64 a0_15, .slice A0_16 l0_16.length c0_16]) (t := 34) ?hr ?_; (case hd => rfl); (case hg => rfl); (case hr => first | (go_simp; done) | (go_simp; rfl)); intro gb466 hg w51 hbox hb; have n0_ := Aside0.mk (below_step (by repeat (first | (with_reducible first | exact HB.out | apply below_alloc | apply pw_below_drewN | apply below_drew1) | exact HB.out)) hb); have n1_ := Aside0.mk (hbox); have n2_ := Aside0.mk ((by rw [hg]; exact (below_size (by repeat (first | (with_reducible first | exact HB.out | apply below_alloc | apply pw_below_drewN | apply below_drew1) | exact HB.out))) : w.heap.size ≤ gb466)); have n3_ := Aside0.mk ((by rw [hg]; exact (below_size (by repeat (first | (with_reducible first | exact HB.out | apply below_alloc | apply pw_below_drewN | apply below_drew1) | exact HB.out))) : w.heap.size ≤ gb466)); clear HB; have HB := n0_; have BK466 := n1_; have GW466 := n2_; have GE466 := n3_; clear n0_ n1_ n2_ n3_; clear hb hbox hg; have hcz52_0 : w51.cell? ⟨gb466, 0, none⟩ = some (.int .i64 a0_0) := (blk_cell BK466.out 0).trans rfl; have hcz52_1 : w51.cell? ⟨gb466, 1, none⟩ = some (.int .i64 a0_1) := (blk_cell BK466.out 1).trans rfl; have hcz52_2 : w51.cell? ⟨gb466, 2, none⟩ = some (.int .i64 a0_2) := (blk_cell BK466.out 2).trans rfl; have hcz52_3 : w51.cell? ⟨gb466, 3, none⟩ = some (.int .i64 a0_3) := (blk_cell BK466.out 3).trans rfl; have hcz52_4 : w51.cell? ⟨gb466, 4, none⟩ = some (.int .i64 a0_4) := (blk_cell BK466.out 4).trans rfl; have hcz52_5 : w51.cell? ⟨gb466, 5, none⟩ = some (.int .i64 a0_5) := (blk_cell BK466.out 5).trans rfl; have hcz52_6 : w51.cell? ⟨gb466, 6, none⟩ = some (.int .i64 a0_6) := (blk_cell BK466.out 6).trans rfl; have hcz52_7 : w51.cell? ⟨gb466, 7, none⟩ = some (.bool a0_7) := (blk_cell BK466.out 7).trans rfl; have hcz52_8 : w51.cell? ⟨gb466, 8, none⟩ = some (.slice A0_8 l0_8.length c0_8) := (blk_cell BK466.out 8).trans rfl; have hcz52_9 : w51.cell? ⟨gb466, 9, none⟩ = some (.int .i64 a0_9) := (blk_cell BK466.out 9).trans rfl; have hcz52_10 : w51.cell? ⟨gb466, 10, none⟩ = some (.int .i64 a0_10) := (blk_cell BK466.out 10).trans rfl; have hcz52_11 : w51.cell? ⟨gb466, 11, none⟩ = some (.int .i64 a0_11) := (blk_cell BK466.out 11).trans rfl; have hcz52_12 : w51.cell? ⟨gb466, 12, none⟩ = some (.slice A0_12 l0_12.length c0_12) := (blk_cell BK466.out 12).trans rfl; have hcz52_13 : w51.cell? ⟨gb466, 13, none⟩ = some (.int .i64 a0_13) := (blk_cell BK466.out 13).trans rfl; have hcz52_14 : w51.cell? ⟨gb466, 14, none⟩ = some (.int .i64 a0_14) := (blk_cell BK466.out 14).trans rfl; have hcz52_15 : w51.cell? ⟨gb466, 15, none⟩ = some (.int .i64 a0_15) := (blk_cell BK466.out 15).trans rfl; have hcz52_16 : w51.cell? ⟨gb466, 16, none⟩ = some (.slice A0_16 l0_16.length c0_16) := (blk_cell BK466.out 16).trans rfl; have hfz52_0 := blk_frozen BK466.out 0; have hfz52_1 := blk_frozen BK466.out 1; have hfz52_2 := blk_frozen BK466.out 2; have hfz52_3 := blk_frozen BK466.out 3; have hfz52_4 := blk_frozen BK466.out 4; have hfz52_5 := blk_frozen BK466.out 5; have hfz52_6 := blk_frozen BK466.out 6; have hfz52_7 := blk_frozen BK466.out 7; have hfz52_8 := blk_frozen BK466.out 8; have hfz52_9 := blk_frozen BK466.out 9; have hfz52_10 := blk_frozen BK466.out 10; have hfz52_11 := blk_frozen BK466.out 11; have hfz52_12 := blk_frozen BK466.out 12; have hfz52_13 := blk_frozen BK466.out 13; have hfz52_14 := blk_frozen BK466.out 14; have hfz52_15 := blk_frozen BK466.out 15; have hfz52_16 := blk_frozen BK466.out 16) | ((with_reducible refine gate_dst (N := 10) rfl ?_); refine Kd.R_lit (Kd.int .i64) _ 2 ?hg (N := 10) ?hd (xs := ([a0_0, a0_1, a0_2] : List Int)) (inner := [.int .i64 a0_0, .int .i64 a0_1, .int .i64 a0_2]) (ok := fun _ => True) (okp := fun _ => True) ?hr ?hp (fun _ hk => hk) trivial (Below.refl _ _) (Nat.le_refl _) (by simp) ?_; (case hd => rfl); (case hg => rfl); (case hr => first | (go_simp; done) | (go_simp; rfl)); (case hp => exact (Reps.one (show Kd.M (Kd.int .i64) _ _ _ a0_0 [.int .i64 a0_0] from rfl) (Reps.one (show Kd.M (Kd.int .i64) _ _ _ a0_1 [.int .i64 a0_1] from rfl) (Reps.one (show Kd.M (Kd.int .i64) _ _ _ a0_2 [.int .i64 a0_2] from rfl) (Reps.none _ _))))); intro v468 w53 ho54 hb hg_ hnew_; clear hg_ hnew_; (first | rw [← Ny467.out] at ho54 | (simp only [Int.reduceToNat] at ho54; rw [← Ny467.out] at ho54)); have n0_ := Aside0.mk (Kd.R_lower ho54 (below_size (by repeat (first | (with_reducible first | exact HB.out | apply below_alloc | apply pw_below_drewN | apply below_drew1 | refine below_set ?_ GE466.out) | exact HB.out)))); have n1_ := Aside0.mk (blk_below (g := gb466) (o := .cells #[.int .i64 a0_0, .int .i64 a0_1, .int .i64 a0_2, .int .i64 a0_3, .int .i64 a0_4, .int .i64 a0_5, .int .i64 a0_6, .bool a0_7, .slice A0_8 l0_8.length c0_8, .int .i64 a0_9, .int .i64 a0_10, .int .i64 a0_11, .slice A0_12 l0_12.length c0_12, .int .i64 a0_13, .int .i64 a0_14, .int .i64 a0_15, .slice A0_16 l0_16.length c0_16] 34 (0, 0)) (by (with_reducible repeat (first | refine blk_drewN ?_ _ | refine blk_drew ?_ | refine blk_alloc ?_ _)); exact BK466.out) hb); have n2_ := Aside0.mk (below_step (by repeat (first | (with_reducible first | exact HB.out | apply below_alloc | apply pw_below_drewN | apply below_drew1 | refine below_set ?_ GE466.out) | exact HB.out)) hb); clear BK466; clear HB; have HO469 := n0_; have BK466 := n1_; have HB := n2_; clear n0_ n1_ n2_; clear hb ho54; obtain ⟨Ao55, co55, eo55⟩ := Kd.R_slice HO469.out; subst eo55) | ((with_reducible refine gate_callee (f := 97) rfl ?_); refine goesL_ (some 11) rfl rfl Tryz.func97 (by kernel_rfl) rfl #[.slice none 0 0, .slice Ao55 y467.length co55] rfl (by (try simp only [List.map_toArray, List.map_cons, List.map_nil]); first | done | rfl | (simp only [List.length_drop, List.length_take]; rfl)) ?_; (refine (trivetref04_num.calls k _ _ ([] : List Int) _ _ y467 t470 _ ?side1 ?side2 ?side3 ?side4 A2.out).mono ?_); (case side1 => exact Kd.C_nil _ _); (case side2 => exact Nat.le_refl _); (case side3 => repeat (first | exact (Kd.R_reads' HO469.out).2.2 | (with_reducible refine Kd.C_alloc ?_ _) | (with_reducible refine Kd.C_drewN ?_ _) | (with_reducible refine Kd.C_drew ?_))); (case side4 => exact (Kd.R_reads' HO469.out).2.1); rintro e w56 ⟨v471, rfl, ho0, hb⟩; refine ⟨_, rfl, ?_⟩; have n0_ := Aside0.mk (Kd.R_below (by (with_reducible repeat (first|apply Kd.R_alloc | apply Kd.R_drewN | apply Kd.R_drew)); exact HO469.out) hb); have n1_ := Aside0.mk (Kd.R_lower ho0 (below_size (by repeat (first | (with_reducible first | exact HB.out | apply below_alloc | apply pw_below_drewN | apply below_drew1 | refine below_set ?_ GE466.out) | exact HB.out)))); have n2_ := Aside0.mk (blk_below (g := gb466) (o := .cells #[.int .i64 a0_0, .int .i64 a0_1, .int .i64 a0_2, .int .i64 a0_3, .int .i64 a0_4, .int .i64 a0_5, .int .i64 a0_6, .bool a0_7, .slice A0_8 l0_8.length c0_8, .int .i64 a0_9, .int .i64 a0_10, .int .i64 a0_11, .slice A0_12 l0_12.length c0_12, .int .i64 a0_13, .int .i64 a0_14, .int .i64 a0_15, .slice A0_16 l0_16.length c0_16] 34 (0, 0)) (by (with_reducible repeat (first | refine blk_drewN ?_ _ | refine blk_drew ?_ | refine blk_alloc ?_ _)); exact BK466.out) hb); have n3_ := Aside0.mk (below_step (by repeat (first | (with_reducible first | exact HB.out | apply below_alloc | apply pw_below_drewN | apply below_drew1 | refine below_set ?_ GE466.out) | exact HB.out)) hb); clear HO469; clear BK466; clear HB; have HO469 := n0_; have HO472 := n1_; have BK466 := n2_; have HB := n3_; clear n0_ n1_ n2_ n3_; (try clear hb); (try clear hb2); (try clear hk); (try clear hi); (try clear ho0); have hcz57_0 : w56.cell? ⟨gb466, 0, none⟩ = some (.int .i64 a0_0) := (blk_cell BK466.out 0).trans rfl; have hcz57_1 : w56.cell? ⟨gb466, 1, none⟩ = some (.int .i64 a0_1) := (blk_cell BK466.out 1).trans rfl; have hcz57_2 : w56.cell? ⟨gb466, 2, none⟩ = some (.int .i64 a0_2) := (blk_cell BK466.out 2).trans rfl; have hcz57_3 : w56.cell? ⟨gb466, 3, none⟩ = some (.int .i64 a0_3) := (blk_cell BK466.out 3).trans rfl; have hcz57_4 : w56.cell? ⟨gb466, 4, none⟩ = some (.int .i64 a0_4) := (blk_cell BK466.out 4).trans rfl; have hcz57_5 : w56.cell? ⟨gb466, 5, none⟩ = some (.int .i64 a0_5) := (blk_cell BK466.out 5).trans rfl; have hcz57_6 : w56.cell? ⟨gb466, 6, none⟩ = some (.int .i64 a0_6) := (blk_cell BK466.out 6).trans rfl; have hcz57_7 : w56.cell? ⟨gb466, 7, none⟩ = some (.bool a0_7) := (blk_cell BK466.out 7).trans rfl; have hcz57_8 : w56.cell? ⟨gb466, 8, none⟩ = some (.slice A0_8 l0_8.length c0_8) := (blk_cell BK466.out 8).trans rfl; have hcz57_9 : w56.cell? ⟨gb466, 9, none⟩ = some (.int .i64 a0_9) := (blk_cell BK466.out 9).trans rfl; have hcz57_10 : w56.cell? ⟨gb466, 10, none⟩ = some (.int .i64 a0_10) := (blk_cell BK466.out 10).trans rfl; have hcz57_11 : w56.cell? ⟨gb466, 11, none⟩ = some (.int .i64 a0_11) := (blk_cell BK466.out 11).trans rfl; have hcz57_12 : w56.cell? ⟨gb466, 12, none⟩ = some (.slice A0_12 l0_12.length c0_12) := (blk_cell BK466.out 12).trans rfl; have hcz57_13 : w56.cell? ⟨gb466, 13, none⟩ = some (.int .i64 a0_13) := (blk_cell BK466.out 13).trans rfl; have hcz57_14 : w56.cell? ⟨gb466, 14, none⟩ = some (.int .i64 a0_14) := (blk_cell BK466.out 14).trans rfl; have hcz57_15 : w56.cell? ⟨gb466, 15, none⟩ = some (.int .i64 a0_15) := (blk_cell BK466.out 15).trans rfl; have hcz57_16 : w56.cell? ⟨gb466, 16, none⟩ = some (.slice A0_16 l0_16.length c0_16) := (blk_cell BK466.out 16).trans rfl; have hfz57_0 := blk_frozen BK466.out 0; have hfz57_1 := blk_frozen BK466.out 1; have hfz57_2 := blk_frozen BK466.out 2; have hfz57_3 := blk_frozen BK466.out 3; have hfz57_4 := blk_frozen BK466.out 4; have hfz57_5 := blk_frozen BK466.out 5; have hfz57_6 := blk_frozen BK466.out 6; have hfz57_7 := blk_frozen BK466.out 7; have hfz57_8 := blk_frozen BK466.out 8; have hfz57_9 := blk_frozen BK466.out 9; have hfz57_10 := blk_frozen BK466.out 10; have hfz57_11 := blk_frozen BK466.out 11; have hfz57_12 := blk_frozen BK466.out 12; have hfz57_13 := blk_frozen BK466.out 13; have hfz57_14 := blk_frozen BK466.out 14; have hfz57_15 := blk_frozen BK466.out 15; have hfz57_16 := blk_frozen BK466.out 16))
          have n0_ := Aside0.mk (Kd.R_drew HO469.out)
          have n1_ := Aside0.mk (Kd.R_drew HO472.out)
          have n2_ := Aside0.mk (blk_drew BK466.out)
          have n3_ := Aside0.mk (below_drew1 HB.out)
          clear HO469
          clear HO472
          clear BK466
          clear HB
          have HO469 := n0_
          have HO472 := n1_
          have BK466 := n2_
          have HB := n3_
          clear n0_ n1_ n2_ n3_
          refine start_ (n := 15) (S := fun w' => w'.cell? ⟨gb466, 0, none⟩ = some (.int .i64 a0_0) ∧ w'.cell? ⟨gb466, 1, none⟩ = some (.int .i64 a0_1) ∧ w'.cell? ⟨gb466, 2, none⟩ = some (.int .i64 a0_2) ∧ w'.cell? ⟨gb466, 3, none⟩ = some (.int .i64 a0_3) ∧ w'.cell? ⟨gb466, 4, none⟩ = some (.int .i64 a0_4) ∧ w'.cell? ⟨gb466, 5, none⟩ = some (.int .i64 a0_5) ∧ w'.cell? ⟨gb466, 6, none⟩ = some (.int .i64 a0_6) ∧ w'.cell? ⟨gb466, 7, none⟩ = some (.bool a0_7) ∧ w'.cell? ⟨gb466, 8, none⟩ = some (.slice A0_8 l0_8.length c0_8) ∧ w'.cell? ⟨gb466, 9, none⟩ = some (.int .i64 a0_9) ∧ w'.cell? ⟨gb466, 10, none⟩ = some (.int .i64 a0_10) ∧ w'.cell? ⟨gb466, 11, none⟩ = some (.int .i64 a0_11) ∧ w'.cell? ⟨gb466, 12, none⟩ = some (.slice A0_12 l0_12.length c0_12) ∧ w'.cell? ⟨gb466, 13, none⟩ = some (.int .i64 a0_13) ∧ w'.cell? ⟨gb466, 14, none⟩ = some (.int .i64 a0_14) ∧ w'.cell? ⟨gb466, 15, none⟩ = some (.int .i64 a0_15) ∧ w'.cell? ⟨gb466, 16, none⟩ = some (.slice A0_16 l0_16.length c0_16)) (ds := []) #[false, false, false, false, false, false, false, false, false, false, false, false, false, false, false] (by kernel_rfl) rfl rfl ⟨(blk_cell BK466.out 0).trans rfl, (blk_cell BK466.out 1).trans rfl, (blk_cell BK466.out 2).trans rfl, (blk_cell BK466.out 3).trans rfl, (blk_cell BK466.out 4).trans rfl, (blk_cell BK466.out 5).trans rfl, (blk_cell BK466.out 6).trans rfl, (blk_cell BK466.out 7).trans rfl, (blk_cell BK466.out 8).trans rfl, (blk_cell BK466.out 9).trans rfl, (blk_cell BK466.out 10).trans rfl, (blk_cell BK466.out 11).trans rfl, (blk_cell BK466.out 12).trans rfl, (blk_cell BK466.out 13).trans rfl, (blk_cell BK466.out 14).trans rfl, (blk_cell BK466.out 15).trans rfl, (blk_cell BK466.out 16).trans rfl⟩ (fun hHeld => ?_); refine with_tabW trivetref04_MsgForm.tab10 trivetref04_MsgForm.bits10 (fun HT_ HW_ => ?_)
          generalize w56.drew = w58 at HO469 HO472 BK466 HB hHeld ⊢
          refine pure_ (i := 0) (N := some 44) (v := ?_) (a' := ?_) #[true, false, false, false, false, false, false, false, false, false, false, false, false, false, false] rfl rfl (any_of HT_.out (by kernel_rfl)) (fun _ _ _ h => h) (Or.inl ⟨by rfl, ?_⟩) ?_ ?_
          rotate_left
          · intro w'
            go_simp
            with_reducible rfl
          rotate_left
          · simp only [Act.put, List.setIfInBounds_toArray, List.set_cons_zero, List.set_cons_succ, i64_w, i32_w]
            rfl
          refine pure_ (i := 1) (N := some 45) (v := ?_) (a' := ?_) #[true, true, false, false, false, false, false, false, false, false, false, false, false, false, false] rfl rfl (any_of HT_.out (by kernel_rfl)) (fun _ _ _ h => h) (Or.inl ⟨by rfl, ?_⟩) ?_ ?_
          rotate_left
          · intro w'
            go_simp
            with_reducible rfl
          rotate_left
          · simp only [Act.put, List.setIfInBounds_toArray, List.set_cons_zero, List.set_cons_succ, i64_w, i32_w]
            rfl
          refine pure_ (i := 3) (N := some 47) (v := ?_) (a' := ?_) #[true, true, false, true, false, false, false, false, false, false, false, false, false, false, false] rfl rfl (any_of HT_.out (by kernel_rfl)) (fun _ _ _ h => h) (Or.inl ⟨by rfl, ?_⟩) ?_ ?_
          rotate_left
          · intro w'
            go_simp
            with_reducible rfl
          rotate_left
          · simp only [Act.put, List.setIfInBounds_toArray, List.set_cons_zero, List.set_cons_succ, i64_w, i32_w]
            rfl
          refine pure_ (i := 5) (N := some 49) (v := ?_) (a' := ?_) #[true, true, false, true, false, true, false, false, false, false, false, false, false, false, false] rfl rfl (any_of HT_.out (by kernel_rfl)) (fun _ _ _ h => h) (Or.inl ⟨by rfl, ?_⟩) ?_ ?_
          rotate_left
          · intro w'
            go_simp
            with_reducible rfl
          rotate_left
          · simp only [Act.put, List.setIfInBounds_toArray, List.set_cons_zero, List.set_cons_succ, i64_w, i32_w]
            rfl
          refine pure_ (i := 7) (N := some 51) (v := ?_) (a' := ?_) #[true, true, false, true, false, true, false, true, false, false, false, false, false, false, false] rfl rfl (any_of HT_.out (by kernel_rfl)) (fun _ _ _ h => h) (Or.inl ⟨by rfl, ?_⟩) ?_ ?_
          rotate_left
          · intro w'
            go_simp
            with_reducible rfl
          rotate_left
          · simp only [Act.put, List.setIfInBounds_toArray, List.set_cons_zero, List.set_cons_succ, i64_w, i32_w]
            rfl
          refine pure_ (i := 11) (N := some 55) (v := ?_) (a' := ?_) #[true, true, false, true, false, true, false, true, false, false, false, true, false, false, false] rfl rfl (any_of HT_.out (by kernel_rfl)) (fun _ _ _ h => h) (Or.inl ⟨by rfl, ?_⟩) ?_ ?_
          rotate_left
          · intro w'
            go_simp
            with_reducible rfl
          rotate_left
          · simp only [Act.put, List.setIfInBounds_toArray, List.set_cons_zero, List.set_cons_succ, i64_w, i32_w]
            rfl
          refine take_ (i := 2) (N := some 46) (v := ?_) (a' := ?_) #[true, true, true, true, false, true, false, true, false, false, false, true, false, false, false] rfl rfl (take_ofW HT_.out HW_.out (by kernel_rfl)) (fun _ _ _ h => h) (Or.inl ⟨by rfl, ?_⟩) hHeld ?_ ?_
          rotate_left
          · rintro w' ⟨s0, s1, s2, s3, s4, s5, s6, s7, s8, s9, s10, s11, s12, s13, s14, s15, s16⟩
            go_simp
            with_reducible rfl
          rotate_left
          · simp only [Act.put, List.setIfInBounds_toArray, List.set_cons_zero, List.set_cons_succ, i64_w, i32_w]
            rfl
          refine take_ (i := 4) (N := some 48) (v := ?_) (a' := ?_) #[true, true, true, true, true, true, false, true, false, false, false, true, false, false, false] rfl rfl (take_ofW HT_.out HW_.out (by kernel_rfl)) (fun _ _ _ h => h) (Or.inl ⟨by rfl, ?_⟩) hHeld ?_ ?_
          rotate_left
          · rintro w' ⟨s0, s1, s2, s3, s4, s5, s6, s7, s8, s9, s10, s11, s12, s13, s14, s15, s16⟩
            go_simp
            with_reducible rfl
          rotate_left
          · simp only [Act.put, List.setIfInBounds_toArray, List.set_cons_zero, List.set_cons_succ, i64_w, i32_w]
            rfl
          refine take_ (i := 6) (N := some 50) (v := ?_) (a' := ?_) #[true, true, true, true, true, true, true, true, false, false, false, true, false, false, false] rfl rfl (take_ofW HT_.out HW_.out (by kernel_rfl)) (fun _ _ _ h => h) (Or.inl ⟨by rfl, ?_⟩) hHeld ?_ ?_
          rotate_left
          · rintro w' ⟨s0, s1, s2, s3, s4, s5, s6, s7, s8, s9, s10, s11, s12, s13, s14, s15, s16⟩
            go_simp
            with_reducible rfl
          rotate_left
          · simp only [Act.put, List.setIfInBounds_toArray, List.set_cons_zero, List.set_cons_succ, i64_w, i32_w]
            rfl
          refine take_ (i := 8) (N := some 52) (v := ?_) (a' := ?_) #[true, true, true, true, true, true, true, true, true, false, false, true, false, false, false] rfl rfl (take_ofW HT_.out HW_.out (by kernel_rfl)) (fun _ _ _ h => h) (Or.inl ⟨by rfl, ?_⟩) hHeld ?_ ?_
          rotate_left
          · rintro w' ⟨s0, s1, s2, s3, s4, s5, s6, s7, s8, s9, s10, s11, s12, s13, s14, s15, s16⟩
            go_simp
            with_reducible rfl
          rotate_left
          · simp only [Act.put, List.setIfInBounds_toArray, List.set_cons_zero, List.set_cons_succ, i64_w, i32_w]
            rfl
          refine take_ (i := 12) (N := some 56) (v := ?_) (a' := ?_) #[true, true, true, true, true, true, true, true, true, false, false, true, true, false, false] rfl rfl (take_ofW HT_.out HW_.out (by kernel_rfl)) (fun _ _ _ h => h) (Or.inl ⟨by rfl, ?_⟩) hHeld ?_ ?_
          rotate_left
          · rintro w' ⟨s0, s1, s2, s3, s4, s5, s6, s7, s8, s9, s10, s11, s12, s13, s14, s15, s16⟩
            go_simp
            with_reducible rfl
          rotate_left
          · simp only [Act.put, List.setIfInBounds_toArray, List.set_cons_zero, List.set_cons_succ, i64_w, i32_w]
            rfl
          refine one_ (i := 9) (N := some 53) #[true, true, true, true, true, true, true, true, true, true, false, true, true, false, false] rfl rfl (one_of HT_.out (by kernel_rfl)) (by decide) (fun K hK => ?_)
          refine Kd.R_lit_step (Kd.int .i64) _ 2 ?hg (N := 53) ?hd (xs := ([a0_3, a0_4, a0_5, a0_6] : List Int)) (inner := [.int .i64 a0_3, .int .i64 a0_4, .int .i64 a0_5, .int .i64 a0_6]) (ok := fun _ => True) (okp := fun _ => True) ?hr ?hp (fun _ hk => hk) trivial (Below.refl _ _) (Nat.le_refl _) (by simp) ?_; (case hd => rfl); (case hg => rfl); (case hr => first | (go_simp; done) | (go_simp; rfl)); (case hp => exact (Reps.one (show Kd.M (Kd.int .i64) _ _ _ a0_3 [.int .i64 a0_3] from rfl) (Reps.one (show Kd.M (Kd.int .i64) _ _ _ a0_4 [.int .i64 a0_4] from rfl) (Reps.one (show Kd.M (Kd.int .i64) _ _ _ a0_5 [.int .i64 a0_5] from rfl) (Reps.one (show Kd.M (Kd.int .i64) _ _ _ a0_6 [.int .i64 a0_6] from rfl) (Reps.none _ _))))))
          intro v495 w59 ho60 hb hg_ hnew_
          clear hg_ hnew_
          (first | rw [← Ny494.out] at ho60 | (simp only [Int.reduceToNat] at ho60; rw [← Ny494.out] at ho60))
          have n0_ := Aside0.mk (Kd.R_elder' (by (with_reducible repeat (first|apply Kd.R_alloc | apply Kd.R_drewN | apply Kd.R_drew)); exact HO469.out) (Kd.R_base ho60) hb)
          have n1_ := Aside0.mk (Kd.R_below (by (with_reducible repeat (first|apply Kd.R_alloc | apply Kd.R_drewN | apply Kd.R_drew)); exact HO472.out) hb)
          have n2_ := Aside0.mk (Kd.R_lower (Kd.R_new' ho60 (Kd.R_lt (by (with_reducible repeat (first|apply Kd.R_alloc | apply Kd.R_drewN | apply Kd.R_drew)); exact HO469.out))) (below_size (by repeat (first | (with_reducible first | exact HB.out | apply below_alloc | apply pw_below_drewN | apply below_drew1 | refine below_set ?_ GE466.out) | exact HB.out))))
          have n3_ := Aside0.mk (blk_below (g := gb466) (o := .cells #[.int .i64 a0_0, .int .i64 a0_1, .int .i64 a0_2, .int .i64 a0_3, .int .i64 a0_4, .int .i64 a0_5, .int .i64 a0_6, .bool a0_7, .slice A0_8 l0_8.length c0_8, .int .i64 a0_9, .int .i64 a0_10, .int .i64 a0_11, .slice A0_12 l0_12.length c0_12, .int .i64 a0_13, .int .i64 a0_14, .int .i64 a0_15, .slice A0_16 l0_16.length c0_16] 34 (0, 0)) (by (with_reducible repeat (first | refine blk_drewN ?_ _ | refine blk_drew ?_ | refine blk_alloc ?_ _)); exact BK466.out) hb)
          have n4_ := Aside0.mk (below_step (by repeat (first | (with_reducible first | exact HB.out | apply below_alloc | apply pw_below_drewN | apply below_drew1 | refine below_set ?_ GE466.out) | exact HB.out)) hb)
          clear HO469
          clear HO472
          clear BK466
          clear HB
          have HO469 := n0_
          have HO472 := n1_
          have HO496 := n2_
          have BK466 := n3_
          have HB := n4_
          clear n0_ n1_ n2_ n3_ n4_
          clear hb ho60
          obtain ⟨Ao61, co61, eo61⟩ := Kd.R_slice HO472.out
          (first | subst eo61 | (injection eo61 with f1_ f2_ f3_; have f4_ := f1_.symm; have f5_ := f3_.symm; clear f1_ f2_ f3_; subst f4_; subst f5_))
          obtain ⟨Ao62, co62, eo62⟩ := Kd.R_slice HO496.out
          (first | subst eo62 | (injection eo62 with f1_ f2_ f3_; have f4_ := f1_.symm; have f5_ := f3_.symm; clear f1_ f2_ f3_; subst f4_; subst f5_))
          refine hK.out _ _ ⟨(blk_cell BK466.out 0).trans rfl, (blk_cell BK466.out 1).trans rfl, (blk_cell BK466.out 2).trans rfl, (blk_cell BK466.out 3).trans rfl, (blk_cell BK466.out 4).trans rfl, (blk_cell BK466.out 5).trans rfl, (blk_cell BK466.out 6).trans rfl, (blk_cell BK466.out 7).trans rfl, (blk_cell BK466.out 8).trans rfl, (blk_cell BK466.out 9).trans rfl, (blk_cell BK466.out 10).trans rfl, (blk_cell BK466.out 11).trans rfl, (blk_cell BK466.out 12).trans rfl, (blk_cell BK466.out 13).trans rfl, (blk_cell BK466.out 14).trans rfl, (blk_cell BK466.out 15).trans rfl, (blk_cell BK466.out 16).trans rfl⟩ (fun hHeld => ?_)
          clear hK K
          refine norm_ (a' := ?_) ?_ ?_
          rotate_left
          · show Act.put _ (some 53) _ = _
            simp only [Act.put, List.setIfInBounds_toArray, List.set_cons_zero, List.set_cons_succ, i64_w, i32_w]
            rfl
          refine one_ (i := 10) (N := some 54) #[true, true, true, true, true, true, true, true, true, true, true, true, true, false, false] rfl rfl (one_of HT_.out (by kernel_rfl)) (by decide) (fun K hK => ?_)
          refine goes_ Tryz.func97 (by kernel_rfl) rfl #[.slice Ao61 t470.length co61, .slice Ao62 y494.length co62] (by rfl) rfl rfl (by (try simp only [List.map_toArray, List.map_cons, List.map_nil]); first | done | rfl | (simp only [List.length_drop, List.length_take]; rfl)) ?_
          with_reducible refine (trivetref04_num.calls k _ _ t470 _ _ y494 t497 _ ?side1 ?side2 ?side3 ?side4 A49.out).mono ?_
          (case side1 => repeat (first | exact (Kd.R_reads' HO472.out).2.2 | (with_reducible refine Kd.C_alloc ?_ _) | (with_reducible refine Kd.C_drewN ?_ _) | (with_reducible refine Kd.C_drew ?_)))
          (case side2 => exact (Kd.R_reads' HO472.out).2.1)
          (case side3 => repeat (first | exact (Kd.R_reads' HO496.out).2.2 | (with_reducible refine Kd.C_alloc ?_ _) | (with_reducible refine Kd.C_drewN ?_ _) | (with_reducible refine Kd.C_drew ?_)))
          (case side4 => exact (Kd.R_reads' HO496.out).2.1)
          rintro e w63 ⟨v498, rfl, ho0, hb⟩
          refine ⟨_, rfl, ?_⟩
          have n0_ := Aside0.mk (Kd.R_below (by (with_reducible repeat (first|apply Kd.R_alloc | apply Kd.R_drewN | apply Kd.R_drew)); exact HO469.out) hb)
          have n1_ := Aside0.mk (Kd.R_elder' (by (with_reducible repeat (first|apply Kd.R_alloc | apply Kd.R_drewN | apply Kd.R_drew)); exact HO472.out) (Kd.R_base ho0) hb)
          have n2_ := Aside0.mk (Kd.R_below (by (with_reducible repeat (first|apply Kd.R_alloc | apply Kd.R_drewN | apply Kd.R_drew)); exact HO496.out) hb)
          have n3_ := Aside0.mk (Kd.R_lower (Kd.R_new' ho0 (Kd.R_lt (by (with_reducible repeat (first|apply Kd.R_alloc | apply Kd.R_drewN | apply Kd.R_drew)); exact HO472.out))) (below_size (by repeat (first | (with_reducible first | exact HB.out | apply below_alloc | apply pw_below_drewN | apply below_drew1 | refine below_set ?_ GE466.out) | exact HB.out))))
          have n4_ := Aside0.mk (blk_below (g := gb466) (o := .cells #[.int .i64 a0_0, .int .i64 a0_1, .int .i64 a0_2, .int .i64 a0_3, .int .i64 a0_4, .int .i64 a0_5, .int .i64 a0_6, .bool a0_7, .slice A0_8 l0_8.length c0_8, .int .i64 a0_9, .int .i64 a0_10, .int .i64 a0_11, .slice A0_12 l0_12.length c0_12, .int .i64 a0_13, .int .i64 a0_14, .int .i64 a0_15, .slice A0_16 l0_16.length c0_16] 34 (0, 0)) (by (with_reducible repeat (first | refine blk_drewN ?_ _ | refine blk_drew ?_ | refine blk_alloc ?_ _)); exact BK466.out) hb)
          have n5_ := Aside0.mk (below_step (by repeat (first | (with_reducible first | exact HB.out | apply below_alloc | apply pw_below_drewN | apply below_drew1 | refine below_set ?_ GE466.out) | exact HB.out)) hb)
          clear HO469
          clear HO472
          clear HO496
          clear BK466
          clear HB
          have HO469 := n0_
          have HO472 := n1_
          have HO496 := n2_
          have HO499 := n3_
          have BK466 := n4_
          have HB := n5_
          clear n0_ n1_ n2_ n3_ n4_ n5_
          (try clear hb)
          (try clear hb2)
          (try clear hk)
          (try clear hi)
          (try clear ho0)
          obtain ⟨Ao64, co64, eo64⟩ := Kd.R_slice HO499.out
          (first | subst eo64 | (injection eo64 with f1_ f2_ f3_; have f4_ := f1_.symm; have f5_ := f3_.symm; clear f1_ f2_ f3_; subst f4_; subst f5_))
          refine hK.out _ _ ⟨(blk_cell BK466.out 0).trans rfl, (blk_cell BK466.out 1).trans rfl, (blk_cell BK466.out 2).trans rfl, (blk_cell BK466.out 3).trans rfl, (blk_cell BK466.out 4).trans rfl, (blk_cell BK466.out 5).trans rfl, (blk_cell BK466.out 6).trans rfl, (blk_cell BK466.out 7).trans rfl, (blk_cell BK466.out 8).trans rfl, (blk_cell BK466.out 9).trans rfl, (blk_cell BK466.out 10).trans rfl, (blk_cell BK466.out 11).trans rfl, (blk_cell BK466.out 12).trans rfl, (blk_cell BK466.out 13).trans rfl, (blk_cell BK466.out 14).trans rfl, (blk_cell BK466.out 15).trans rfl, (blk_cell BK466.out 16).trans rfl⟩ (fun hHeld => ?_)
          clear hK K
          refine norm_ (a' := ?_) ?_ ?_
          rotate_left
          · show Act.put _ (some 54) _ = _
            simp only [Act.put, List.setIfInBounds_toArray, List.set_cons_zero, List.set_cons_succ, i64_w, i32_w]
            rfl
          refine one_ (i := 13) (N := some 57) #[true, true, true, true, true, true, true, true, true, true, true, true, true, true, false] rfl rfl (one_of HT_.out (by kernel_rfl)) (by decide) (fun K hK => ?_)
          refine goes_ Tryz.func105 (by kernel_rfl) rfl #[.slice Ao64 t497.length co64, .slice A0_8 l0_8.length c0_8] (by rfl) rfl rfl (by (try simp only [List.map_toArray, List.map_cons, List.map_nil]); first | done | rfl | (simp only [List.length_drop, List.length_take]; rfl)) ?_
          with_reducible refine (trivetref04_lists.calls k _ _ t497 _ _ l0_8 t500 _ ?side1 ?side2 ?side3 ?side4 A50.out).mono ?_
          (case side1 => repeat (first | exact (Kd.R_reads' HO499.out).2.2 | (with_reducible refine Kd.C_alloc ?_ _) | (with_reducible refine Kd.C_drewN ?_ _) | (with_reducible refine Kd.C_drew ?_)))
          (case side2 => exact (Kd.R_reads' HO499.out).2.1)
          (case side3 => repeat (first | exact (Kd.C_below HR0_8.out HB.out) | (with_reducible refine Kd.C_alloc ?_ _) | (with_reducible refine Kd.C_drewN ?_ _) | (with_reducible refine Kd.C_drew ?_)))
          (case side4 => exact HC0_8.out)
          rintro e w65 ⟨v501, rfl, ho0, hb⟩
          refine ⟨_, rfl, ?_⟩
          have n0_ := Aside0.mk (Kd.R_below (by (with_reducible repeat (first|apply Kd.R_alloc | apply Kd.R_drewN | apply Kd.R_drew)); exact HO469.out) hb)
          have n1_ := Aside0.mk (Kd.R_elder' (by (with_reducible repeat (first|apply Kd.R_alloc | apply Kd.R_drewN | apply Kd.R_drew)); exact HO472.out) (Kd.R_base ho0) hb)
          have n2_ := Aside0.mk (Kd.R_below (by (with_reducible repeat (first|apply Kd.R_alloc | apply Kd.R_drewN | apply Kd.R_drew)); exact HO496.out) hb)
          have n3_ := Aside0.mk (Kd.R_elder' (by (with_reducible repeat (first|apply Kd.R_alloc | apply Kd.R_drewN | apply Kd.R_drew)); exact HO499.out) (Kd.R_base ho0) hb)
          have n4_ := Aside0.mk (Kd.R_lower (Kd.R_new' (Kd.R_new' ho0 (Kd.R_lt (by (with_reducible repeat (first|apply Kd.R_alloc | apply Kd.R_drewN | apply Kd.R_drew)); exact HO472.out))) (Kd.R_lt (by (with_reducible repeat (first|apply Kd.R_alloc | apply Kd.R_drewN | apply Kd.R_drew)); exact HO499.out))) (below_size (by repeat (first | (with_reducible first | exact HB.out | apply below_alloc | apply pw_below_drewN | apply below_drew1 | refine below_set ?_ GE466.out) | exact HB.out))))
          have n5_ := Aside0.mk (blk_below (g := gb466) (o := .cells #[.int .i64 a0_0, .int .i64 a0_1, .int .i64 a0_2, .int .i64 a0_3, .int .i64 a0_4, .int .i64 a0_5, .int .i64 a0_6, .bool a0_7, .slice A0_8 l0_8.length c0_8, .int .i64 a0_9, .int .i64 a0_10, .int .i64 a0_11, .slice A0_12 l0_12.length c0_12, .int .i64 a0_13, .int .i64 a0_14, .int .i64 a0_15, .slice A0_16 l0_16.length c0_16] 34 (0, 0)) (by (with_reducible repeat (first | refine blk_drewN ?_ _ | refine blk_drew ?_ | refine blk_alloc ?_ _)); exact BK466.out) hb)
          have n6_ := Aside0.mk (below_step (by repeat (first | (with_reducible first | exact HB.out | apply below_alloc | apply pw_below_drewN | apply below_drew1 | refine below_set ?_ GE466.out) | exact HB.out)) hb)
          clear HO469
          clear HO472
          clear HO496
          clear HO499
          clear BK466
          clear HB
          have HO469 := n0_
          have HO472 := n1_
          have HO496 := n2_
          have HO499 := n3_
          have HO502 := n4_
          have BK466 := n5_
          have HB := n6_
          clear n0_ n1_ n2_ n3_ n4_ n5_ n6_
          (try clear hb)
          (try clear hb2)
          (try clear hk)
          (try clear hi)
          (try clear ho0)
          refine hK.out _ _ ⟨(blk_cell BK466.out 0).trans rfl, (blk_cell BK466.out 1).trans rfl, (blk_cell BK466.out 2).trans rfl, (blk_cell BK466.out 3).trans rfl, (blk_cell BK466.out 4).trans rfl, (blk_cell BK466.out 5).trans rfl, (blk_cell BK466.out 6).trans rfl, (blk_cell BK466.out 7).trans rfl, (blk_cell BK466.out 8).trans rfl, (blk_cell BK466.out 9).trans rfl, (blk_cell BK466.out 10).trans rfl, (blk_cell BK466.out 11).trans rfl, (blk_cell BK466.out 12).trans rfl, (blk_cell BK466.out 13).trans rfl, (blk_cell BK466.out 14).trans rfl, (blk_cell BK466.out 15).trans rfl, (blk_cell BK466.out 16).trans rfl⟩ (fun hHeld => ?_)
          clear hK K
          refine norm_ (a' := ?_) ?_ ?_
          rotate_left
          · show Act.put _ (some 57) _ = _
            simp only [Act.put, List.setIfInBounds_toArray, List.set_cons_zero, List.set_cons_succ, i64_w, i32_w]
            rfl
          refine pure_ (i := 14) (N := some 2) (v := ?_) (a' := ?_) #[true, true, true, true, true, true, true, true, true, true, true, true, true, true, true] rfl rfl (any_of HT_.out (by kernel_rfl)) (fun _ _ _ h => h) (Or.inl ⟨by rfl, ?_⟩) ?_ ?_
          rotate_left
          · intro w'
            go_simp
            with_reducible rfl
          rotate_left
          · simp only [Act.put, List.setIfInBounds_toArray, List.set_cons_zero, List.set_cons_succ, i64_w, i32_w]
            rfl
          refine done_ (done_of HT_.out (by kernel_rfl)) ?_
          try go_wp2
          go_ret
          exact ⟨_, by first | rfl | (simp [errW_none, errW_some] <;> rfl) | (simp [*, errW_none, errW_some] <;> rfl), by (with_reducible repeat (first|apply Kd.R_alloc | apply Kd.R_drewN | apply Kd.R_drew)); exact Kd.R_mono HO502.out (fun _ hk => trivial), by repeat (first | (with_reducible first | exact HB.out | apply below_alloc | apply pw_below_drewN | apply below_drew1 | refine below_set ?_ GE466.out) | exact HB.out)⟩
        · rw [if_neg c48] at H
          have c48b0 : (a0_0 == 3) = false := beq_eq_false_iff_ne.mpr c48
          have c48b1 : (a0_0 != 3) = true := bne_iff_ne.mpr c48
          by_cases c66 : a0_0 = 4
          · rw [if_pos c66] at H
            have c66b0 : (a0_0 == 4) = true := beq_iff_eq.mpr c66
            have c66b1 : (a0_0 != 4) = false := bne_eq_false_iff_eq.mpr c66
            clear c66
            obtain ⟨y503, hy503⟩ : ∃ y_ : List Int, y_ = (([a0_3] : List Int)) := ⟨_, rfl⟩
            replace H : ((trivetref04_num.f k t470 y503).bind fun t506 => ((trivetref04_yes.f k t506 a0_7).bind fun t509 => ((trivetref04_num.f k t509 (([a0_4] : List Int))).bind fun t515 => (some t515)))) = some r := by first | (rw [hy503]; with_reducible exact H) | (have H2_ := (Option.bind_some _ _).symm.trans H; rw [hy503]; with_reducible exact H2_) | (have H2_ := (Option.bind_some _ _).symm.trans H; with_reducible exact H2_) | with_reducible exact H | (rw [hy503]; exact H) | exact H
            have Ny503 := Aside0.mk hy503
            clear hy503
            replace H := Option.bind_eq_some_iff.mp H
            obtain ⟨t506, A670, H⟩ := H
            replace H : ((trivetref04_yes.f k t506 a0_7).bind fun t509 => ((trivetref04_num.f k t509 (([a0_4] : List Int))).bind fun t515 => (some t515))) = some r := H
            have A67 := Aside0.mk A670
            clear A670
            replace H := Option.bind_eq_some_iff.mp H
            obtain ⟨t509, A680, H⟩ := H
            replace H : ((trivetref04_num.f k t509 (([a0_4] : List Int))).bind fun t515 => (some t515)) = some r := H
            have A68 := Aside0.mk A680
            clear A680
            obtain ⟨y512, hy512⟩ : ∃ y_ : List Int, y_ = (([a0_4] : List Int)) := ⟨_, rfl⟩
            replace H : ((trivetref04_num.f k t509 y512).bind fun t515 => (some t515)) = some r := by first | (rw [hy512]; with_reducible exact H) | (have H2_ := (Option.bind_some _ _).symm.trans H; rw [hy512]; with_reducible exact H2_) | (have H2_ := (Option.bind_some _ _).symm.trans H; with_reducible exact H2_) | with_reducible exact H | (rw [hy512]; exact H) | exact H
            have Ny512 := Aside0.mk hy512
            clear hy512
            replace H := Option.bind_eq_some_iff.mp H
            obtain ⟨t515, A690, H⟩ := H
            replace H : (some t515) = some r := H
            have A69 := Aside0.mk A690
            clear A690
            obtain rfl := Option.some.inj H
            go_enter Tryz.func52, Tryz.ntmps52
            try go_wp2_with (first | ((with_reducible refine gate_dst (N := 1) rfl ?_); refine box_event ?hg (N := 1) ?hd (cs := #[.int .i64 a0_0, .int .i64 a0_1, .int .i64 a0_2, .int .i64 a0_3, .int .i64 a0_4, .int .i64 a0_5, .int .i64 a0_6, .bool a0_7, .slice A0_8 l0_8.length c0_8, .int .i64 a0_9, .int .i64 a0_10, .int .i64 a0_11, .slice A0_12 l0_12.length c0_12, .int .i64 a0_13, .int .i64 a0_14, .int .i64 a0_15, .slice A0_16 l0_16.length c0_16]) (t := 34) ?hr ?_; (case hd => rfl); (case hg => rfl); (case hr => first | (go_simp; done) | (go_simp; rfl)); intro gb466 hg w70 hbox hb; have n0_ := Aside0.mk (below_step (by repeat (first | (with_reducible first | exact HB.out | apply below_alloc | apply pw_below_drewN | apply below_drew1) | exact HB.out)) hb); have n1_ := Aside0.mk (hbox); have n2_ := Aside0.mk ((by rw [hg]; exact (below_size (by repeat (first | (with_reducible first | exact HB.out | apply below_alloc | apply pw_below_drewN | apply below_drew1) | exact HB.out))) : w.heap.size ≤ gb466)); have n3_ := Aside0.mk ((by rw [hg]; exact (below_size (by repeat (first | (with_reducible first | exact HB.out | apply below_alloc | apply pw_below_drewN | apply below_drew1) | exact HB.out))) : w.heap.size ≤ gb466)); clear HB; have HB := n0_; have BK466 := n1_; have GW466 := n2_; have GE466 := n3_; clear n0_ n1_ n2_ n3_; clear hb hbox hg; have hcz71_0 : w70.cell? ⟨gb466, 0, none⟩ = some (.int .i64 a0_0) := (blk_cell BK466.out 0).trans rfl; have hcz71_1 : w70.cell? ⟨gb466, 1, none⟩ = some (.int .i64 a0_1) := (blk_cell BK466.out 1).trans rfl; have hcz71_2 : w70.cell? ⟨gb466, 2, none⟩ = some (.int .i64 a0_2) := (blk_cell BK466.out 2).trans rfl; have hcz71_3 : w70.cell? ⟨gb466, 3, none⟩ = some (.int .i64 a0_3) := (blk_cell BK466.out 3).trans rfl; have hcz71_4 : w70.cell? ⟨gb466, 4, none⟩ = some (.int .i64 a0_4) := (blk_cell BK466.out 4).trans rfl; have hcz71_5 : w70.cell? ⟨gb466, 5, none⟩ = some (.int .i64 a0_5) := (blk_cell BK466.out 5).trans rfl; have hcz71_6 : w70.cell? ⟨gb466, 6, none⟩ = some (.int .i64 a0_6) := (blk_cell BK466.out 6).trans rfl; have hcz71_7 : w70.cell? ⟨gb466, 7, none⟩ = some (.bool a0_7) := (blk_cell BK466.out 7).trans rfl; have hcz71_8 : w70.cell? ⟨gb466, 8, none⟩ = some (.slice A0_8 l0_8.length c0_8) := (blk_cell BK466.out 8).trans rfl; have hcz71_9 : w70.cell? ⟨gb466, 9, none⟩ = some (.int .i64 a0_9) := (blk_cell BK466.out 9).trans rfl; have hcz71_10 : w70.cell? ⟨gb466, 10, none⟩ = some (.int .i64 a0_10) := (blk_cell BK466.out 10).trans rfl; have hcz71_11 : w70.cell? ⟨gb466, 11, none⟩ = some (.int .i64 a0_11) := (blk_cell BK466.out 11).trans rfl; have hcz71_12 : w70.cell? ⟨gb466, 12, none⟩ = some (.slice A0_12 l0_12.length c0_12) := (blk_cell BK466.out 12).trans rfl; have hcz71_13 : w70.cell? ⟨gb466, 13, none⟩ = some (.int .i64 a0_13) := (blk_cell BK466.out 13).trans rfl; have hcz71_14 : w70.cell? ⟨gb466, 14, none⟩ = some (.int .i64 a0_14) := (blk_cell BK466.out 14).trans rfl; have hcz71_15 : w70.cell? ⟨gb466, 15, none⟩ = some (.int .i64 a0_15) := (blk_cell BK466.out 15).trans rfl; have hcz71_16 : w70.cell? ⟨gb466, 16, none⟩ = some (.slice A0_16 l0_16.length c0_16) := (blk_cell BK466.out 16).trans rfl; have hfz71_0 := blk_frozen BK466.out 0; have hfz71_1 := blk_frozen BK466.out 1; have hfz71_2 := blk_frozen BK466.out 2; have hfz71_3 := blk_frozen BK466.out 3; have hfz71_4 := blk_frozen BK466.out 4; have hfz71_5 := blk_frozen BK466.out 5; have hfz71_6 := blk_frozen BK466.out 6; have hfz71_7 := blk_frozen BK466.out 7; have hfz71_8 := blk_frozen BK466.out 8; have hfz71_9 := blk_frozen BK466.out 9; have hfz71_10 := blk_frozen BK466.out 10; have hfz71_11 := blk_frozen BK466.out 11; have hfz71_12 := blk_frozen BK466.out 12; have hfz71_13 := blk_frozen BK466.out 13; have hfz71_14 := blk_frozen BK466.out 14; have hfz71_15 := blk_frozen BK466.out 15; have hfz71_16 := blk_frozen BK466.out 16) | ((with_reducible refine gate_dst (N := 10) rfl ?_); refine Kd.R_lit (Kd.int .i64) _ 2 ?hg (N := 10) ?hd (xs := ([a0_0, a0_1, a0_2] : List Int)) (inner := [.int .i64 a0_0, .int .i64 a0_1, .int .i64 a0_2]) (ok := fun _ => True) (okp := fun _ => True) ?hr ?hp (fun _ hk => hk) trivial (Below.refl _ _) (Nat.le_refl _) (by simp) ?_; (case hd => rfl); (case hg => rfl); (case hr => first | (go_simp; done) | (go_simp; rfl)); (case hp => exact (Reps.one (show Kd.M (Kd.int .i64) _ _ _ a0_0 [.int .i64 a0_0] from rfl) (Reps.one (show Kd.M (Kd.int .i64) _ _ _ a0_1 [.int .i64 a0_1] from rfl) (Reps.one (show Kd.M (Kd.int .i64) _ _ _ a0_2 [.int .i64 a0_2] from rfl) (Reps.none _ _))))); intro v468 w72 ho73 hb hg_ hnew_; clear hg_ hnew_; (first | rw [← Ny467.out] at ho73 | (simp only [Int.reduceToNat] at ho73; rw [← Ny467.out] at ho73)); have n0_ := Aside0.mk (Kd.R_lower ho73 (below_size (by repeat (first | (with_reducible first | exact HB.out | apply below_alloc | apply pw_below_drewN | apply below_drew1 | refine below_set ?_ GE466.out) | exact HB.out)))); have n1_ := Aside0.mk (blk_below (g := gb466) (o := .cells #[.int .i64 a0_0, .int .i64 a0_1, .int .i64 a0_2, .int .i64 a0_3, .int .i64 a0_4, .int .i64 a0_5, .int .i64 a0_6, .bool a0_7, .slice A0_8 l0_8.length c0_8, .int .i64 a0_9, .int .i64 a0_10, .int .i64 a0_11, .slice A0_12 l0_12.length c0_12, .int .i64 a0_13, .int .i64 a0_14, .int .i64 a0_15, .slice A0_16 l0_16.length c0_16] 34 (0, 0)) (by (with_reducible repeat (first | refine blk_drewN ?_ _ | refine blk_drew ?_ | refine blk_alloc ?_ _)); exact BK466.out) hb); have n2_ := Aside0.mk (below_step (by repeat (first | (with_reducible first | exact HB.out | apply below_alloc | apply pw_below_drewN | apply below_drew1 | refine below_set ?_ GE466.out) | exact HB.out)) hb); clear BK466; clear HB; have HO469 := n0_; have BK466 := n1_; have HB := n2_; clear n0_ n1_ n2_; clear hb ho73; obtain ⟨Ao74, co74, eo74⟩ := Kd.R_slice HO469.out; subst eo74) | ((with_reducible refine gate_callee (f := 97) rfl ?_); refine goesL_ (some 11) rfl rfl Tryz.func97 (by kernel_rfl) rfl #[.slice none 0 0, .slice Ao74 y467.length co74] rfl (by (try simp only [List.map_toArray, List.map_cons, List.map_nil]); first | done | rfl | (simp only [List.length_drop, List.length_take]; rfl)) ?_; (refine (trivetref04_num.calls k _ _ ([] : List Int) _ _ y467 t470 _ ?side1 ?side2 ?side3 ?side4 A2.out).mono ?_); (case side1 => exact Kd.C_nil _ _); (case side2 => exact Nat.le_refl _); (case side3 => repeat (first | exact (Kd.R_reads' HO469.out).2.2 | (with_reducible refine Kd.C_alloc ?_ _) | (with_reducible refine Kd.C_drewN ?_ _) | (with_reducible refine Kd.C_drew ?_))); (case side4 => exact (Kd.R_reads' HO469.out).2.1); rintro e w75 ⟨v471, rfl, ho0, hb⟩; refine ⟨_, rfl, ?_⟩; have n0_ := Aside0.mk (Kd.R_below (by (with_reducible repeat (first|apply Kd.R_alloc | apply Kd.R_drewN | apply Kd.R_drew)); exact HO469.out) hb); have n1_ := Aside0.mk (Kd.R_lower ho0 (below_size (by repeat (first | (with_reducible first | exact HB.out | apply below_alloc | apply pw_below_drewN | apply below_drew1 | refine below_set ?_ GE466.out) | exact HB.out)))); have n2_ := Aside0.mk (blk_below (g := gb466) (o := .cells #[.int .i64 a0_0, .int .i64 a0_1, .int .i64 a0_2, .int .i64 a0_3, .int .i64 a0_4, .int .i64 a0_5, .int .i64 a0_6, .bool a0_7, .slice A0_8 l0_8.length c0_8, .int .i64 a0_9, .int .i64 a0_10, .int .i64 a0_11, .slice A0_12 l0_12.length c0_12, .int .i64 a0_13, .int .i64 a0_14, .int .i64 a0_15, .slice A0_16 l0_16.length c0_16] 34 (0, 0)) (by (with_reducible repeat (first | refine blk_drewN ?_ _ | refine blk_drew ?_ | refine blk_alloc ?_ _)); exact BK466.out) hb); have n3_ := Aside0.mk (below_step (by repeat (first | (with_reducible first | exact HB.out | apply below_alloc | apply pw_below_drewN | apply below_drew1 | refine below_set ?_ GE466.out) | exact HB.out)) hb); clear HO469; clear BK466; clear HB; have HO469 := n0_; have HO472 := n1_; have BK466 := n2_; have HB := n3_; clear n0_ n1_ n2_ n3_; (try clear hb); (try clear hb2); (try clear hk); (try clear hi); (try clear ho0); have hcz76_0 : w75.cell? ⟨gb466, 0, none⟩ = some (.int .i64 a0_0) := (blk_cell BK466.out 0).trans rfl; have hcz76_1 : w75.cell? ⟨gb466, 1, none⟩ = some (.int .i64 a0_1) := (blk_cell BK466.out 1).trans rfl; have hcz76_2 : w75.cell? ⟨gb466, 2, none⟩ = some (.int .i64 a0_2) := (blk_cell BK466.out 2).trans rfl; have hcz76_3 : w75.cell? ⟨gb466, 3, none⟩ = some (.int .i64 a0_3) := (blk_cell BK466.out 3).trans rfl; have hcz76_4 : w75.cell? ⟨gb466, 4, none⟩ = some (.int .i64 a0_4) := (blk_cell BK466.out 4).trans rfl; have hcz76_5 : w75.cell? ⟨gb466, 5, none⟩ = some (.int .i64 a0_5) := (blk_cell BK466.out 5).trans rfl; have hcz76_6 : w75.cell? ⟨gb466, 6, none⟩ = some (.int .i64 a0_6) := (blk_cell BK466.out 6).trans rfl; have hcz76_7 : w75.cell? ⟨gb466, 7, none⟩ = some (.bool a0_7) := (blk_cell BK466.out 7).trans rfl; have hcz76_8 : w75.cell? ⟨gb466, 8, none⟩ = some (.slice A0_8 l0_8.length c0_8) := (blk_cell BK466.out 8).trans rfl; have hcz76_9 : w75.cell? ⟨gb466, 9, none⟩ = some (.int .i64 a0_9) := (blk_cell BK466.out 9).trans rfl; have hcz76_10 : w75.cell? ⟨gb466, 10, none⟩ = some (.int .i64 a0_10) := (blk_cell BK466.out 10).trans rfl; have hcz76_11 : w75.cell? ⟨gb466, 11, none⟩ = some (.int .i64 a0_11) := (blk_cell BK466.out 11).trans rfl; have hcz76_12 : w75.cell? ⟨gb466, 12, none⟩ = some (.slice A0_12 l0_12.length c0_12) := (blk_cell BK466.out 12).trans rfl; have hcz76_13 : w75.cell? ⟨gb466, 13, none⟩ = some (.int .i64 a0_13) := (blk_cell BK466.out 13).trans rfl; have hcz76_14 : w75.cell? ⟨gb466, 14, none⟩ = some (.int .i64 a0_14) := (blk_cell BK466.out 14).trans rfl; have hcz76_15 : w75.cell? ⟨gb466, 15, none⟩ = some (.int .i64 a0_15) := (blk_cell BK466.out 15).trans rfl; have hcz76_16 : w75.cell? ⟨gb466, 16, none⟩ = some (.slice A0_16 l0_16.length c0_16) := (blk_cell BK466.out 16).trans rfl; have hfz76_0 := blk_frozen BK466.out 0; have hfz76_1 := blk_frozen BK466.out 1; have hfz76_2 := blk_frozen BK466.out 2; have hfz76_3 := blk_frozen BK466.out 3; have hfz76_4 := blk_frozen BK466.out 4; have hfz76_5 := blk_frozen BK466.out 5; have hfz76_6 := blk_frozen BK466.out 6; have hfz76_7 := blk_frozen BK466.out 7; have hfz76_8 := blk_frozen BK466.out 8; have hfz76_9 := blk_frozen BK466.out 9; have hfz76_10 := blk_frozen BK466.out 10; have hfz76_11 := blk_frozen BK466.out 11; have hfz76_12 := blk_frozen BK466.out 12; have hfz76_13 := blk_frozen BK466.out 13; have hfz76_14 := blk_frozen BK466.out 14; have hfz76_15 := blk_frozen BK466.out 15; have hfz76_16 := blk_frozen BK466.out 16; obtain ⟨Ao77, co77, eo77⟩ := Kd.R_slice HO472.out; subst eo77))
            have n0_ := Aside0.mk (Kd.R_drew HO469.out)
            have n1_ := Aside0.mk (Kd.R_drew HO472.out)
            have n2_ := Aside0.mk (blk_drew BK466.out)
            have n3_ := Aside0.mk (below_drew1 HB.out)
            clear HO469
            clear HO472
            clear BK466
            clear HB
            have HO469 := n0_
            have HO472 := n1_
            have BK466 := n2_
            have HB := n3_
            clear n0_ n1_ n2_ n3_
            refine start_ (n := 13) (S := fun w' => w'.cell? ⟨gb466, 0, none⟩ = some (.int .i64 a0_0) ∧ w'.cell? ⟨gb466, 1, none⟩ = some (.int .i64 a0_1) ∧ w'.cell? ⟨gb466, 2, none⟩ = some (.int .i64 a0_2) ∧ w'.cell? ⟨gb466, 3, none⟩ = some (.int .i64 a0_3) ∧ w'.cell? ⟨gb466, 4, none⟩ = some (.int .i64 a0_4) ∧ w'.cell? ⟨gb466, 5, none⟩ = some (.int .i64 a0_5) ∧ w'.cell? ⟨gb466, 6, none⟩ = some (.int .i64 a0_6) ∧ w'.cell? ⟨gb466, 7, none⟩ = some (.bool a0_7) ∧ w'.cell? ⟨gb466, 8, none⟩ = some (.slice A0_8 l0_8.length c0_8) ∧ w'.cell? ⟨gb466, 9, none⟩ = some (.int .i64 a0_9) ∧ w'.cell? ⟨gb466, 10, none⟩ = some (.int .i64 a0_10) ∧ w'.cell? ⟨gb466, 11, none⟩ = some (.int .i64 a0_11) ∧ w'.cell? ⟨gb466, 12, none⟩ = some (.slice A0_12 l0_12.length c0_12) ∧ w'.cell? ⟨gb466, 13, none⟩ = some (.int .i64 a0_13) ∧ w'.cell? ⟨gb466, 14, none⟩ = some (.int .i64 a0_14) ∧ w'.cell? ⟨gb466, 15, none⟩ = some (.int .i64 a0_15) ∧ w'.cell? ⟨gb466, 16, none⟩ = some (.slice A0_16 l0_16.length c0_16)) (ds := []) #[false, false, false, false, false, false, false, false, false, false, false, false, false] (by kernel_rfl) rfl rfl ⟨(blk_cell BK466.out 0).trans rfl, (blk_cell BK466.out 1).trans rfl, (blk_cell BK466.out 2).trans rfl, (blk_cell BK466.out 3).trans rfl, (blk_cell BK466.out 4).trans rfl, (blk_cell BK466.out 5).trans rfl, (blk_cell BK466.out 6).trans rfl, (blk_cell BK466.out 7).trans rfl, (blk_cell BK466.out 8).trans rfl, (blk_cell BK466.out 9).trans rfl, (blk_cell BK466.out 10).trans rfl, (blk_cell BK466.out 11).trans rfl, (blk_cell BK466.out 12).trans rfl, (blk_cell BK466.out 13).trans rfl, (blk_cell BK466.out 14).trans rfl, (blk_cell BK466.out 15).trans rfl, (blk_cell BK466.out 16).trans rfl⟩ (fun hHeld => ?_); refine with_tabW trivetref04_MsgForm.tab12 trivetref04_MsgForm.bits12 (fun HT_ HW_ => ?_)
            generalize w75.drew = w78 at HO469 HO472 BK466 HB hHeld ⊢
            refine pure_ (i := 0) (N := some 60) (v := ?_) (a' := ?_) #[true, false, false, false, false, false, false, false, false, false, false, false, false] rfl rfl (any_of HT_.out (by kernel_rfl)) (fun _ _ _ h => h) (Or.inl ⟨by rfl, ?_⟩) ?_ ?_
            rotate_left
            · intro w'
              go_simp
              with_reducible rfl
            rotate_left
            · simp only [Act.put, List.setIfInBounds_toArray, List.set_cons_zero, List.set_cons_succ, i64_w, i32_w]
              rfl
            refine pure_ (i := 1) (N := some 61) (v := ?_) (a' := ?_) #[true, true, false, false, false, false, false, false, false, false, false, false, false] rfl rfl (any_of HT_.out (by kernel_rfl)) (fun _ _ _ h => h) (Or.inl ⟨by rfl, ?_⟩) ?_ ?_
            rotate_left
            · intro w'
              go_simp
              with_reducible rfl
            rotate_left
            · simp only [Act.put, List.setIfInBounds_toArray, List.set_cons_zero, List.set_cons_succ, i64_w, i32_w]
              rfl
            refine pure_ (i := 5) (N := some 65) (v := ?_) (a' := ?_) #[true, true, false, false, false, true, false, false, false, false, false, false, false] rfl rfl (any_of HT_.out (by kernel_rfl)) (fun _ _ _ h => h) (Or.inl ⟨by rfl, ?_⟩) ?_ ?_
            rotate_left
            · intro w'
              go_simp
              with_reducible rfl
            rotate_left
            · simp only [Act.put, List.setIfInBounds_toArray, List.set_cons_zero, List.set_cons_succ, i64_w, i32_w]
              rfl
            refine pure_ (i := 8) (N := some 68) (v := ?_) (a' := ?_) #[true, true, false, false, false, true, false, false, true, false, false, false, false] rfl rfl (any_of HT_.out (by kernel_rfl)) (fun _ _ _ h => h) (Or.inl ⟨by rfl, ?_⟩) ?_ ?_
            rotate_left
            · intro w'
              go_simp
              with_reducible rfl
            rotate_left
            · simp only [Act.put, List.setIfInBounds_toArray, List.set_cons_zero, List.set_cons_succ, i64_w, i32_w]
              rfl
            refine take_ (i := 2) (N := some 62) (v := ?_) (a' := ?_) #[true, true, true, false, false, true, false, false, true, false, false, false, false] rfl rfl (take_ofW HT_.out HW_.out (by kernel_rfl)) (fun _ _ _ h => h) (Or.inl ⟨by rfl, ?_⟩) hHeld ?_ ?_
            rotate_left
            · rintro w' ⟨s0, s1, s2, s3, s4, s5, s6, s7, s8, s9, s10, s11, s12, s13, s14, s15, s16⟩
              go_simp
              with_reducible rfl
            rotate_left
            · simp only [Act.put, List.setIfInBounds_toArray, List.set_cons_zero, List.set_cons_succ, i64_w, i32_w]
              rfl
            refine take_ (i := 6) (N := some 66) (v := ?_) (a' := ?_) #[true, true, true, false, false, true, true, false, true, false, false, false, false] rfl rfl (take_ofW HT_.out HW_.out (by kernel_rfl)) (fun _ _ _ h => h) (Or.inl ⟨by rfl, ?_⟩) hHeld ?_ ?_
            rotate_left
            · rintro w' ⟨s0, s1, s2, s3, s4, s5, s6, s7, s8, s9, s10, s11, s12, s13, s14, s15, s16⟩
              go_simp
              with_reducible rfl
            rotate_left
            · simp only [Act.put, List.setIfInBounds_toArray, List.set_cons_zero, List.set_cons_succ, i64_w, i32_w]
              rfl
            refine take_ (i := 9) (N := some 69) (v := ?_) (a' := ?_) #[true, true, true, false, false, true, true, false, true, true, false, false, false] rfl rfl (take_ofW HT_.out HW_.out (by kernel_rfl)) (fun _ _ _ h => h) (Or.inl ⟨by rfl, ?_⟩) hHeld ?_ ?_
            rotate_left
            · rintro w' ⟨s0, s1, s2, s3, s4, s5, s6, s7, s8, s9, s10, s11, s12, s13, s14, s15, s16⟩
              go_simp
              with_reducible rfl
            rotate_left
            · simp only [Act.put, List.setIfInBounds_toArray, List.set_cons_zero, List.set_cons_succ, i64_w, i32_w]
              rfl
            refine join_ (σ := Value × Value × Value × Value) 2 #[true, true, true, true, true, true, true, true, true, true, true, false, false] (fun s_ => [(63, s_.1), (64, s_.2.1), (67, s_.2.2.1), (70, s_.2.2.2)]) (fun s_ w' => (w'.cell? ⟨gb466, 0, none⟩ = some (.int .i64 a0_0) ∧ w'.cell? ⟨gb466, 1, none⟩ = some (.int .i64 a0_1) ∧ w'.cell? ⟨gb466, 2, none⟩ = some (.int .i64 a0_2) ∧ w'.cell? ⟨gb466, 3, none⟩ = some (.int .i64 a0_3) ∧ w'.cell? ⟨gb466, 4, none⟩ = some (.int .i64 a0_4) ∧ w'.cell? ⟨gb466, 5, none⟩ = some (.int .i64 a0_5) ∧ w'.cell? ⟨gb466, 6, none⟩ = some (.int .i64 a0_6) ∧ w'.cell? ⟨gb466, 7, none⟩ = some (.bool a0_7) ∧ w'.cell? ⟨gb466, 8, none⟩ = some (.slice A0_8 l0_8.length c0_8) ∧ w'.cell? ⟨gb466, 9, none⟩ = some (.int .i64 a0_9) ∧ w'.cell? ⟨gb466, 10, none⟩ = some (.int .i64 a0_10) ∧ w'.cell? ⟨gb466, 11, none⟩ = some (.int .i64 a0_11) ∧ w'.cell? ⟨gb466, 12, none⟩ = some (.slice A0_12 l0_12.length c0_12) ∧ w'.cell? ⟨gb466, 13, none⟩ = some (.int .i64 a0_13) ∧ w'.cell? ⟨gb466, 14, none⟩ = some (.int .i64 a0_14) ∧ w'.cell? ⟨gb466, 15, none⟩ = some (.int .i64 a0_15) ∧ w'.cell? ⟨gb466, 16, none⟩ = some (.slice A0_16 l0_16.length c0_16)) ∧ (Kd.R (Kd.int .i64) 2 w' w.heap.size (fun k_ => some k_ ≠ (s_.1 : Value).ownBlock ∧ some k_ ≠ (s_.2.2.2 : Value).ownBlock) (.slice Ao74 y467.length co74) y467) ∧ (Kd.R (Kd.int .u8) 5 w' w.heap.size (fun k_ => some k_ ≠ (s_.2.1 : Value).ownBlock ∧ some k_ ≠ (s_.2.2.1 : Value).ownBlock) (.slice Ao77 t470.length co77) t470) ∧ (Kd.R (Kd.int .i64) 2 w' w.heap.size (fun k_ => some k_ ≠ (.slice Ao74 y467.length co74 : Value).ownBlock ∧ some k_ ≠ (s_.2.2.2 : Value).ownBlock) s_.1 y503) ∧ (Kd.R (Kd.int .u8) 5 w' w.heap.size (fun k_ => some k_ ≠ (.slice Ao77 t470.length co77 : Value).ownBlock ∧ some k_ ≠ (s_.2.2.1 : Value).ownBlock) s_.2.1 t506) ∧ (Kd.R (Kd.int .u8) 5 w' w.heap.size (fun k_ => some k_ ≠ (.slice Ao77 t470.length co77 : Value).ownBlock ∧ some k_ ≠ (s_.2.1 : Value).ownBlock) s_.2.2.1 t509) ∧ (Kd.R (Kd.int .i64) 2 w' w.heap.size (fun k_ => some k_ ≠ (.slice Ao74 y467.length co74 : Value).ownBlock ∧ some k_ ≠ (s_.1 : Value).ownBlock) s_.2.2.2 y512) ∧ (w'.heap[gb466]? = some (.cells #[.int .i64 a0_0, .int .i64 a0_1, .int .i64 a0_2, .int .i64 a0_3, .int .i64 a0_4, .int .i64 a0_5, .int .i64 a0_6, .bool a0_7, .slice A0_8 l0_8.length c0_8, .int .i64 a0_9, .int .i64 a0_10, .int .i64 a0_11, .slice A0_12 l0_12.length c0_12, .int .i64 a0_13, .int .i64 a0_14, .int .i64 a0_15, .slice A0_16 l0_16.length c0_16] 34 (0, 0))) ∧ (Below w.heap.size w w')) ?_ ?_
            rotate_left
            · intro hCont
              refine two_ (i := 3) (j := 10) (Ni := some 63) (Nj := some 70) #[true, true, true, true, false, true, true, false, true, true, false, false, false] #[true, true, true, false, false, true, true, false, true, true, true, false, false] rfl rfl rfl rfl (two_of HT_.out (by kernel_rfl)) (by decide) (by decide) (fun K hK => ?_) (fun K hK => ?_)
              · skip
                refine Kd.R_lit_step (Kd.int .i64) _ 2 ?hg (N := 63) ?hd (xs := ([a0_3] : List Int)) (inner := [.int .i64 a0_3]) (ok := fun _ => True) (okp := fun _ => True) ?hr ?hp (fun _ hk => hk) trivial (Below.refl _ _) (Nat.le_refl _) (by simp) ?_; (case hd => rfl); (case hg => rfl); (case hr => first | (go_simp; done) | (go_simp; rfl)); (case hp => exact (Reps.one (show Kd.M (Kd.int .i64) _ _ _ a0_3 [.int .i64 a0_3] from rfl) (Reps.none _ _)))
                intro v504 w79 ho80 hb hg_ hnew_
                clear hg_ hnew_
                (first | rw [← Ny503.out] at ho80 | (simp only [Int.reduceToNat] at ho80; rw [← Ny503.out] at ho80))
                have n0_ := Aside0.mk (Kd.R_elder' (by (with_reducible repeat (first|apply Kd.R_alloc | apply Kd.R_drewN | apply Kd.R_drew)); exact HO469.out) (Kd.R_base ho80) hb)
                have n1_ := Aside0.mk (Kd.R_below (by (with_reducible repeat (first|apply Kd.R_alloc | apply Kd.R_drewN | apply Kd.R_drew)); exact HO472.out) hb)
                have n2_ := Aside0.mk (Kd.R_lower (Kd.R_new' ho80 (Kd.R_lt (by (with_reducible repeat (first|apply Kd.R_alloc | apply Kd.R_drewN | apply Kd.R_drew)); exact HO469.out))) (below_size (by repeat (first | (with_reducible first | exact HB.out | apply below_alloc | apply pw_below_drewN | apply below_drew1 | refine below_set ?_ GE466.out) | exact HB.out))))
                have n3_ := Aside0.mk (blk_below (g := gb466) (o := .cells #[.int .i64 a0_0, .int .i64 a0_1, .int .i64 a0_2, .int .i64 a0_3, .int .i64 a0_4, .int .i64 a0_5, .int .i64 a0_6, .bool a0_7, .slice A0_8 l0_8.length c0_8, .int .i64 a0_9, .int .i64 a0_10, .int .i64 a0_11, .slice A0_12 l0_12.length c0_12, .int .i64 a0_13, .int .i64 a0_14, .int .i64 a0_15, .slice A0_16 l0_16.length c0_16] 34 (0, 0)) (by (with_reducible repeat (first | refine blk_drewN ?_ _ | refine blk_drew ?_ | refine blk_alloc ?_ _)); exact BK466.out) hb)
                have n4_ := Aside0.mk (below_step (by repeat (first | (with_reducible first | exact HB.out | apply below_alloc | apply pw_below_drewN | apply below_drew1 | refine below_set ?_ GE466.out) | exact HB.out)) hb)
                clear HO469
                clear HO472
                clear BK466
                clear HB
                have HO469 := n0_
                have HO472 := n1_
                have HO505 := n2_
                have BK466 := n3_
                have HB := n4_
                clear n0_ n1_ n2_ n3_ n4_
                clear hb ho80
                obtain ⟨Ao81, co81, eo81⟩ := Kd.R_slice HO505.out
                (first | subst eo81 | (injection eo81 with f1_ f2_ f3_; have f4_ := f1_.symm; have f5_ := f3_.symm; clear f1_ f2_ f3_; subst f4_; subst f5_))
                refine hK.out _ _ ⟨(blk_cell BK466.out 0).trans rfl, (blk_cell BK466.out 1).trans rfl, (blk_cell BK466.out 2).trans rfl, (blk_cell BK466.out 3).trans rfl, (blk_cell BK466.out 4).trans rfl, (blk_cell BK466.out 5).trans rfl, (blk_cell BK466.out 6).trans rfl, (blk_cell BK466.out 7).trans rfl, (blk_cell BK466.out 8).trans rfl, (blk_cell BK466.out 9).trans rfl, (blk_cell BK466.out 10).trans rfl, (blk_cell BK466.out 11).trans rfl, (blk_cell BK466.out 12).trans rfl, (blk_cell BK466.out 13).trans rfl, (blk_cell BK466.out 14).trans rfl, (blk_cell BK466.out 15).trans rfl, (blk_cell BK466.out 16).trans rfl⟩ (fun hHeld => ?_)
                clear hK K
                refine norm_ (a' := ?_) ?_ ?_
                rotate_left
                · show Act.put _ (some 63) _ = _
                  simp only [Act.put, List.setIfInBounds_toArray, List.set_cons_zero, List.set_cons_succ, i64_w, i32_w]
                  rfl
                refine two_ (i := 4) (j := 10) (Ni := some 64) (Nj := some 70) #[true, true, true, true, true, true, true, false, true, true, false, false, false] #[true, true, true, true, false, true, true, false, true, true, true, false, false] rfl rfl rfl rfl (two_of HT_.out (by kernel_rfl)) (by decide) (by decide) (fun K hK => ?_) (fun K hK => ?_)
                · skip
                  refine goes_ Tryz.func97 (by kernel_rfl) rfl #[.slice Ao77 t470.length co77, .slice Ao81 y503.length co81] (by rfl) rfl rfl (by (try simp only [List.map_toArray, List.map_cons, List.map_nil]); first | done | rfl | (simp only [List.length_drop, List.length_take]; rfl)) ?_
                  with_reducible refine (trivetref04_num.calls k _ _ t470 _ _ y503 t506 _ ?side1 ?side2 ?side3 ?side4 A67.out).mono ?_
                  (case side1 => repeat (first | exact (Kd.R_reads' HO472.out).2.2 | (with_reducible refine Kd.C_alloc ?_ _) | (with_reducible refine Kd.C_drewN ?_ _) | (with_reducible refine Kd.C_drew ?_)))
                  (case side2 => exact (Kd.R_reads' HO472.out).2.1)
                  (case side3 => repeat (first | exact (Kd.R_reads' HO505.out).2.2 | (with_reducible refine Kd.C_alloc ?_ _) | (with_reducible refine Kd.C_drewN ?_ _) | (with_reducible refine Kd.C_drew ?_)))
                  (case side4 => exact (Kd.R_reads' HO505.out).2.1)
                  rintro e w82 ⟨v507, rfl, ho0, hb⟩
                  refine ⟨_, rfl, ?_⟩
                  have n0_ := Aside0.mk (Kd.R_below (by (with_reducible repeat (first|apply Kd.R_alloc | apply Kd.R_drewN | apply Kd.R_drew)); exact HO469.out) hb)
                  have n1_ := Aside0.mk (Kd.R_elder' (by (with_reducible repeat (first|apply Kd.R_alloc | apply Kd.R_drewN | apply Kd.R_drew)); exact HO472.out) (Kd.R_base ho0) hb)
                  have n2_ := Aside0.mk (Kd.R_below (by (with_reducible repeat (first|apply Kd.R_alloc | apply Kd.R_drewN | apply Kd.R_drew)); exact HO505.out) hb)
                  have n3_ := Aside0.mk (Kd.R_lower (Kd.R_new' ho0 (Kd.R_lt (by (with_reducible repeat (first|apply Kd.R_alloc | apply Kd.R_drewN | apply Kd.R_drew)); exact HO472.out))) (below_size (by repeat (first | (with_reducible first | exact HB.out | apply below_alloc | apply pw_below_drewN | apply below_drew1 | refine below_set ?_ GE466.out) | exact HB.out))))
                  have n4_ := Aside0.mk (blk_below (g := gb466) (o := .cells #[.int .i64 a0_0, .int .i64 a0_1, .int .i64 a0_2, .int .i64 a0_3, .int .i64 a0_4, .int .i64 a0_5, .int .i64 a0_6, .bool a0_7, .slice A0_8 l0_8.length c0_8, .int .i64 a0_9, .int .i64 a0_10, .int .i64 a0_11, .slice A0_12 l0_12.length c0_12, .int .i64 a0_13, .int .i64 a0_14, .int .i64 a0_15, .slice A0_16 l0_16.length c0_16] 34 (0, 0)) (by (with_reducible repeat (first | refine blk_drewN ?_ _ | refine blk_drew ?_ | refine blk_alloc ?_ _)); exact BK466.out) hb)
                  have n5_ := Aside0.mk (below_step (by repeat (first | (with_reducible first | exact HB.out | apply below_alloc | apply pw_below_drewN | apply below_drew1 | refine below_set ?_ GE466.out) | exact HB.out)) hb)
                  clear HO469
                  clear HO472
                  clear HO505
                  clear BK466
                  clear HB
                  have HO469 := n0_
                  have HO472 := n1_
                  have HO505 := n2_
                  have HO508 := n3_
                  have BK466 := n4_
                  have HB := n5_
                  clear n0_ n1_ n2_ n3_ n4_ n5_
                  (try clear hb)
                  (try clear hb2)
                  (try clear hk)
                  (try clear hi)
                  (try clear ho0)
                  obtain ⟨Ao83, co83, eo83⟩ := Kd.R_slice HO508.out
                  (first | subst eo83 | (injection eo83 with f1_ f2_ f3_; have f4_ := f1_.symm; have f5_ := f3_.symm; clear f1_ f2_ f3_; subst f4_; subst f5_))
                  refine hK.out _ _ ⟨(blk_cell BK466.out 0).trans rfl, (blk_cell BK466.out 1).trans rfl, (blk_cell BK466.out 2).trans rfl, (blk_cell BK466.out 3).trans rfl, (blk_cell BK466.out 4).trans rfl, (blk_cell BK466.out 5).trans rfl, (blk_cell BK466.out 6).trans rfl, (blk_cell BK466.out 7).trans rfl, (blk_cell BK466.out 8).trans rfl, (blk_cell BK466.out 9).trans rfl, (blk_cell BK466.out 10).trans rfl, (blk_cell BK466.out 11).trans rfl, (blk_cell BK466.out 12).trans rfl, (blk_cell BK466.out 13).trans rfl, (blk_cell BK466.out 14).trans rfl, (blk_cell BK466.out 15).trans rfl, (blk_cell BK466.out 16).trans rfl⟩ (fun hHeld => ?_)
                  clear hK K
                  refine norm_ (a' := ?_) ?_ ?_
                  rotate_left
                  · show Act.put _ (some 64) _ = _
                    simp only [Act.put, List.setIfInBounds_toArray, List.set_cons_zero, List.set_cons_succ, i64_w, i32_w]
                    rfl
                  refine two_ (i := 7) (j := 10) (Ni := some 67) (Nj := some 70) #[true, true, true, true, true, true, true, true, true, true, false, false, false] #[true, true, true, true, true, true, true, false, true, true, true, false, false] rfl rfl rfl rfl (two_of HT_.out (by kernel_rfl)) (by decide) (by decide) (fun K hK => ?_) (fun K hK => ?_)
                  · skip
                    refine goes_ Tryz.func104 (by kernel_rfl) rfl #[.slice Ao83 t506.length co83, .bool a0_7] (by rfl) rfl rfl (by (try simp only [List.map_toArray, List.map_cons, List.map_nil]); first | done | rfl | (simp only [List.length_drop, List.length_take]; rfl)) ?_
                    with_reducible refine (trivetref04_yes.calls k _ _ t506 a0_7 t509 _ ?side1 ?side2 A68.out).mono ?_
                    (case side1 => repeat (first | exact (Kd.R_reads' HO508.out).2.2 | (with_reducible refine Kd.C_alloc ?_ _) | (with_reducible refine Kd.C_drewN ?_ _) | (with_reducible refine Kd.C_drew ?_)))
                    (case side2 => exact (Kd.R_reads' HO508.out).2.1)
                    rintro e w84 ⟨v510, rfl, ho0, hb⟩
                    refine ⟨_, rfl, ?_⟩
                    have n0_ := Aside0.mk (Kd.R_below (by (with_reducible repeat (first|apply Kd.R_alloc | apply Kd.R_drewN | apply Kd.R_drew)); exact HO469.out) hb)
                    have n1_ := Aside0.mk (Kd.R_elder' (by (with_reducible repeat (first|apply Kd.R_alloc | apply Kd.R_drewN | apply Kd.R_drew)); exact HO472.out) (Kd.R_base ho0) hb)
                    have n2_ := Aside0.mk (Kd.R_below (by (with_reducible repeat (first|apply Kd.R_alloc | apply Kd.R_drewN | apply Kd.R_drew)); exact HO505.out) hb)
                    have n3_ := Aside0.mk (Kd.R_elder' (by (with_reducible repeat (first|apply Kd.R_alloc | apply Kd.R_drewN | apply Kd.R_drew)); exact HO508.out) (Kd.R_base ho0) hb)
                    have n4_ := Aside0.mk (Kd.R_lower (Kd.R_new' (Kd.R_new' ho0 (Kd.R_lt (by (with_reducible repeat (first|apply Kd.R_alloc | apply Kd.R_drewN | apply Kd.R_drew)); exact HO472.out))) (Kd.R_lt (by (with_reducible repeat (first|apply Kd.R_alloc | apply Kd.R_drewN | apply Kd.R_drew)); exact HO508.out))) (below_size (by repeat (first | (with_reducible first | exact HB.out | apply below_alloc | apply pw_below_drewN | apply below_drew1 | refine below_set ?_ GE466.out) | exact HB.out))))
                    have n5_ := Aside0.mk (blk_below (g := gb466) (o := .cells #[.int .i64 a0_0, .int .i64 a0_1, .int .i64 a0_2, .int .i64 a0_3, .int .i64 a0_4, .int .i64 a0_5, .int .i64 a0_6, .bool a0_7, .slice A0_8 l0_8.length c0_8, .int .i64 a0_9, .int .i64 a0_10, .int .i64 a0_11, .slice A0_12 l0_12.length c0_12, .int .i64 a0_13, .int .i64 a0_14, .int .i64 a0_15, .slice A0_16 l0_16.length c0_16] 34 (0, 0)) (by (with_reducible repeat (first | refine blk_drewN ?_ _ | refine blk_drew ?_ | refine blk_alloc ?_ _)); exact BK466.out) hb)
                    have n6_ := Aside0.mk (below_step (by repeat (first | (with_reducible first | exact HB.out | apply below_alloc | apply pw_below_drewN | apply below_drew1 | refine below_set ?_ GE466.out) | exact HB.out)) hb)
                    clear HO469
                    clear HO472
                    clear HO505
                    clear HO508
                    clear BK466
                    clear HB
                    have HO469 := n0_
                    have HO472 := n1_
                    have HO505 := n2_
                    have HO508 := n3_
                    have HO511 := n4_
                    have BK466 := n5_
                    have HB := n6_
                    clear n0_ n1_ n2_ n3_ n4_ n5_ n6_
                    (try clear hb)
                    (try clear hb2)
                    (try clear hk)
                    (try clear hi)
                    (try clear ho0)
                    refine hK.out _ _ ⟨(blk_cell BK466.out 0).trans rfl, (blk_cell BK466.out 1).trans rfl, (blk_cell BK466.out 2).trans rfl, (blk_cell BK466.out 3).trans rfl, (blk_cell BK466.out 4).trans rfl, (blk_cell BK466.out 5).trans rfl, (blk_cell BK466.out 6).trans rfl, (blk_cell BK466.out 7).trans rfl, (blk_cell BK466.out 8).trans rfl, (blk_cell BK466.out 9).trans rfl, (blk_cell BK466.out 10).trans rfl, (blk_cell BK466.out 11).trans rfl, (blk_cell BK466.out 12).trans rfl, (blk_cell BK466.out 13).trans rfl, (blk_cell BK466.out 14).trans rfl, (blk_cell BK466.out 15).trans rfl, (blk_cell BK466.out 16).trans rfl⟩ (fun hHeld => ?_)
                    clear hK K
                    refine norm_ (a' := ?_) ?_ ?_
                    rotate_left
                    · show Act.put _ (some 67) _ = _
                      simp only [Act.put, List.setIfInBounds_toArray, List.set_cons_zero, List.set_cons_succ, i64_w, i32_w]
                      rfl
                    refine one_ (i := 10) (N := some 70) #[true, true, true, true, true, true, true, true, true, true, true, false, false] rfl rfl (one_of HT_.out (by kernel_rfl)) (by decide) (fun K hK => ?_)
                    refine Kd.R_lit_step (Kd.int .i64) _ 2 ?hg (N := 70) ?hd (xs := ([a0_4] : List Int)) (inner := [.int .i64 a0_4]) (ok := fun _ => True) (okp := fun _ => True) ?hr ?hp (fun _ hk => hk) trivial (Below.refl _ _) (Nat.le_refl _) (by simp) ?_; (case hd => rfl); (case hg => rfl); (case hr => first | (go_simp; done) | (go_simp; rfl)); (case hp => exact (Reps.one (show Kd.M (Kd.int .i64) _ _ _ a0_4 [.int .i64 a0_4] from rfl) (Reps.none _ _)))
                    intro v513 w85 ho86 hb hg_ hnew_
                    clear hg_ hnew_
                    (first | rw [← Ny512.out] at ho86 | (simp only [Int.reduceToNat] at ho86; rw [← Ny512.out] at ho86))
                    have n0_ := Aside0.mk (Kd.R_elder' (by (with_reducible repeat (first|apply Kd.R_alloc | apply Kd.R_drewN | apply Kd.R_drew)); exact HO469.out) (Kd.R_base ho86) hb)
                    have n1_ := Aside0.mk (Kd.R_below (by (with_reducible repeat (first|apply Kd.R_alloc | apply Kd.R_drewN | apply Kd.R_drew)); exact HO472.out) hb)
                    have n2_ := Aside0.mk (Kd.R_elder' (by (with_reducible repeat (first|apply Kd.R_alloc | apply Kd.R_drewN | apply Kd.R_drew)); exact HO505.out) (Kd.R_base ho86) hb)
                    have n3_ := Aside0.mk (Kd.R_below (by (with_reducible repeat (first|apply Kd.R_alloc | apply Kd.R_drewN | apply Kd.R_drew)); exact HO508.out) hb)
                    have n4_ := Aside0.mk (Kd.R_below (by (with_reducible repeat (first|apply Kd.R_alloc | apply Kd.R_drewN | apply Kd.R_drew)); exact HO511.out) hb)
                    have n5_ := Aside0.mk (Kd.R_lower (Kd.R_new' (Kd.R_new' ho86 (Kd.R_lt (by (with_reducible repeat (first|apply Kd.R_alloc | apply Kd.R_drewN | apply Kd.R_drew)); exact HO469.out))) (Kd.R_lt (by (with_reducible repeat (first|apply Kd.R_alloc | apply Kd.R_drewN | apply Kd.R_drew)); exact HO505.out))) (below_size (by repeat (first | (with_reducible first | exact HB.out | apply below_alloc | apply pw_below_drewN | apply below_drew1 | refine below_set ?_ GE466.out) | exact HB.out))))
                    have n6_ := Aside0.mk (blk_below (g := gb466) (o := .cells #[.int .i64 a0_0, .int .i64 a0_1, .int .i64 a0_2, .int .i64 a0_3, .int .i64 a0_4, .int .i64 a0_5, .int .i64 a0_6, .bool a0_7, .slice A0_8 l0_8.length c0_8, .int .i64 a0_9, .int .i64 a0_10, .int .i64 a0_11, .slice A0_12 l0_12.length c0_12, .int .i64 a0_13, .int .i64 a0_14, .int .i64 a0_15, .slice A0_16 l0_16.length c0_16] 34 (0, 0)) (by (with_reducible repeat (first | refine blk_drewN ?_ _ | refine blk_drew ?_ | refine blk_alloc ?_ _)); exact BK466.out) hb)
                    have n7_ := Aside0.mk (below_step (by repeat (first | (with_reducible first | exact HB.out | apply below_alloc | apply pw_below_drewN | apply below_drew1 | refine below_set ?_ GE466.out) | exact HB.out)) hb)
                    clear HO469
                    clear HO472
                    clear HO505
                    clear HO508
                    clear HO511
                    clear BK466
                    clear HB
                    have HO469 := n0_
                    have HO472 := n1_
                    have HO505 := n2_
                    have HO508 := n3_
                    have HO511 := n4_
                    have HO514 := n5_
                    have BK466 := n6_
                    have HB := n7_
                    clear n0_ n1_ n2_ n3_ n4_ n5_ n6_ n7_
                    clear hb ho86
                    refine hK.out _ _ ⟨(blk_cell BK466.out 0).trans rfl, (blk_cell BK466.out 1).trans rfl, (blk_cell BK466.out 2).trans rfl, (blk_cell BK466.out 3).trans rfl, (blk_cell BK466.out 4).trans rfl, (blk_cell BK466.out 5).trans rfl, (blk_cell BK466.out 6).trans rfl, (blk_cell BK466.out 7).trans rfl, (blk_cell BK466.out 8).trans rfl, (blk_cell BK466.out 9).trans rfl, (blk_cell BK466.out 10).trans rfl, (blk_cell BK466.out 11).trans rfl, (blk_cell BK466.out 12).trans rfl, (blk_cell BK466.out 13).trans rfl, (blk_cell BK466.out 14).trans rfl, (blk_cell BK466.out 15).trans rfl, (blk_cell BK466.out 16).trans rfl⟩ (fun hHeld => ?_)
                    clear hK K
                    refine norm_ (a' := ?_) ?_ ?_
                    rotate_left
                    · show Act.put _ (some 70) _ = _
                      simp only [Act.put, List.setIfInBounds_toArray, List.set_cons_zero, List.set_cons_succ, i64_w, i32_w]
                      rfl
                    exact norm_ (by simp only [putAll, Act.put, List.setIfInBounds_toArray, List.set_cons_zero, List.set_cons_succ]) (hCont (.slice Ao81 y503.length co81, .slice Ao83 t506.length co83, v510, v513) _ ⟨hHeld, (by (with_reducible repeat (first|apply Kd.R_alloc | apply Kd.R_drewN | apply Kd.R_drew)); exact Kd.R_mono HO469.out (fun _ hk => ⟨hk.1.2, hk.2⟩)), (by (with_reducible repeat (first|apply Kd.R_alloc | apply Kd.R_drewN | apply Kd.R_drew)); exact Kd.R_mono HO472.out (fun _ hk => ⟨hk.1.2, hk.2⟩)), (by (with_reducible repeat (first|apply Kd.R_alloc | apply Kd.R_drewN | apply Kd.R_drew)); exact Kd.R_mono HO505.out (fun _ hk => ⟨hk.1.2, hk.2⟩)), (by (with_reducible repeat (first|apply Kd.R_alloc | apply Kd.R_drewN | apply Kd.R_drew)); exact Kd.R_mono HO508.out (fun _ hk => ⟨hk.1.2, hk.2⟩)), (by (with_reducible repeat (first|apply Kd.R_alloc | apply Kd.R_drewN | apply Kd.R_drew)); exact Kd.R_mono HO511.out (fun _ hk => ⟨hk.1.2, hk.2⟩)), (by (with_reducible repeat (first|apply Kd.R_alloc | apply Kd.R_drewN | apply Kd.R_drew)); exact Kd.R_mono HO514.out (fun _ hk => ⟨hk.1.2, hk.2⟩)), (by (with_reducible repeat (first | refine blk_drewN ?_ _ | refine blk_drew ?_ | refine blk_alloc ?_ _)); exact BK466.out), (by repeat (first | (with_reducible first | exact HB.out | apply below_alloc | apply pw_below_drewN | apply below_drew1 | refine below_set ?_ GE466.out) | exact HB.out))⟩)
                  · skip
                    refine Kd.R_lit_step (Kd.int .i64) _ 2 ?hg (N := 70) ?hd (xs := ([a0_4] : List Int)) (inner := [.int .i64 a0_4]) (ok := fun _ => True) (okp := fun _ => True) ?hr ?hp (fun _ hk => hk) trivial (Below.refl _ _) (Nat.le_refl _) (by simp) ?_; (case hd => rfl); (case hg => rfl); (case hr => first | (go_simp; done) | (go_simp; rfl)); (case hp => exact (Reps.one (show Kd.M (Kd.int .i64) _ _ _ a0_4 [.int .i64 a0_4] from rfl) (Reps.none _ _)))
                    intro v513 w83 ho84 hb hg_ hnew_
                    clear hg_ hnew_
                    (first | rw [← Ny512.out] at ho84 | (simp only [Int.reduceToNat] at ho84; rw [← Ny512.out] at ho84))
                    have n0_ := Aside0.mk (Kd.R_elder' (by (with_reducible repeat (first|apply Kd.R_alloc | apply Kd.R_drewN | apply Kd.R_drew)); exact HO469.out) (Kd.R_base ho84) hb)
                    have n1_ := Aside0.mk (Kd.R_below (by (with_reducible repeat (first|apply Kd.R_alloc | apply Kd.R_drewN | apply Kd.R_drew)); exact HO472.out) hb)
                    have n2_ := Aside0.mk (Kd.R_elder' (by (with_reducible repeat (first|apply Kd.R_alloc | apply Kd.R_drewN | apply Kd.R_drew)); exact HO505.out) (Kd.R_base ho84) hb)
                    have n3_ := Aside0.mk (Kd.R_below (by (with_reducible repeat (first|apply Kd.R_alloc | apply Kd.R_drewN | apply Kd.R_drew)); exact HO508.out) hb)
                    have n4_ := Aside0.mk (Kd.R_lower (Kd.R_new' (Kd.R_new' ho84 (Kd.R_lt (by (with_reducible repeat (first|apply Kd.R_alloc | apply Kd.R_drewN | apply Kd.R_drew)); exact HO469.out))) (Kd.R_lt (by (with_reducible repeat (first|apply Kd.R_alloc | apply Kd.R_drewN | apply Kd.R_drew)); exact HO505.out))) (below_size (by repeat (first | (with_reducible first | exact HB.out | apply below_alloc | apply pw_below_drewN | apply below_drew1 | refine below_set ?_ GE466.out) | exact HB.out))))
                    have n5_ := Aside0.mk (blk_below (g := gb466) (o := .cells #[.int .i64 a0_0, .int .i64 a0_1, .int .i64 a0_2, .int .i64 a0_3, .int .i64 a0_4, .int .i64 a0_5, .int .i64 a0_6, .bool a0_7, .slice A0_8 l0_8.length c0_8, .int .i64 a0_9, .int .i64 a0_10, .int .i64 a0_11, .slice A0_12 l0_12.length c0_12, .int .i64 a0_13, .int .i64 a0_14, .int .i64 a0_15, .slice A0_16 l0_16.length c0_16] 34 (0, 0)) (by (with_reducible repeat (first | refine blk_drewN ?_ _ | refine blk_drew ?_ | refine blk_alloc ?_ _)); exact BK466.out) hb)
                    have n6_ := Aside0.mk (below_step (by repeat (first | (with_reducible first | exact HB.out | apply below_alloc | apply pw_below_drewN | apply below_drew1 | refine below_set ?_ GE466.out) | exact HB.out)) hb)
                    clear HO469
                    clear HO472
                    clear HO505
                    clear HO508
                    clear BK466
                    clear HB
                    have HO469 := n0_
                    have HO472 := n1_
                    have HO505 := n2_
                    have HO508 := n3_
                    have HO514 := n4_
                    have BK466 := n5_
                    have HB := n6_
                    clear n0_ n1_ n2_ n3_ n4_ n5_ n6_
                    clear hb ho84
                    obtain ⟨Ao85, co85, eo85⟩ := Kd.R_slice HO508.out
                    (first | subst eo85 | (injection eo85 with f1_ f2_ f3_; have f4_ := f1_.symm; have f5_ := f3_.symm; clear f1_ f2_ f3_; subst f4_; subst f5_))
                    refine hK.out _ _ ⟨(blk_cell BK466.out 0).trans rfl, (blk_cell BK466.out 1).trans rfl, (blk_cell BK466.out 2).trans rfl, (blk_cell BK466.out 3).trans rfl, (blk_cell BK466.out 4).trans rfl, (blk_cell BK466.out 5).trans rfl, (blk_cell BK466.out 6).trans rfl, (blk_cell BK466.out 7).trans rfl, (blk_cell BK466.out 8).trans rfl, (blk_cell BK466.out 9).trans rfl, (blk_cell BK466.out 10).trans rfl, (blk_cell BK466.out 11).trans rfl, (blk_cell BK466.out 12).trans rfl, (blk_cell BK466.out 13).trans rfl, (blk_cell BK466.out 14).trans rfl, (blk_cell BK466.out 15).trans rfl, (blk_cell BK466.out 16).trans rfl⟩ (fun hHeld => ?_)
                    clear hK K
                    refine norm_ (a' := ?_) ?_ ?_
                    rotate_left
                    · show Act.put _ (some 70) _ = _
                      simp only [Act.put, List.setIfInBounds_toArray, List.set_cons_zero, List.set_cons_succ, i64_w, i32_w]
                      rfl
                    refine one_ (i := 7) (N := some 67) #[true, true, true, true, true, true, true, true, true, true, true, false, false] rfl rfl (one_of HT_.out (by kernel_rfl)) (by decide) (fun K hK => ?_)
                    refine goes_ Tryz.func104 (by kernel_rfl) rfl #[.slice Ao85 t506.length co85, .bool a0_7] (by rfl) rfl rfl (by (try simp only [List.map_toArray, List.map_cons, List.map_nil]); first | done | rfl | (simp only [List.length_drop, List.length_take]; rfl)) ?_
                    with_reducible refine (trivetref04_yes.calls k _ _ t506 a0_7 t509 _ ?side1 ?side2 A68.out).mono ?_
                    (case side1 => repeat (first | exact (Kd.R_reads' HO508.out).2.2 | (with_reducible refine Kd.C_alloc ?_ _) | (with_reducible refine Kd.C_drewN ?_ _) | (with_reducible refine Kd.C_drew ?_)))
                    (case side2 => exact (Kd.R_reads' HO508.out).2.1)
                    rintro e w86 ⟨v510, rfl, ho0, hb⟩
                    refine ⟨_, rfl, ?_⟩
                    have n0_ := Aside0.mk (Kd.R_below (by (with_reducible repeat (first|apply Kd.R_alloc | apply Kd.R_drewN | apply Kd.R_drew)); exact HO469.out) hb)
                    have n1_ := Aside0.mk (Kd.R_elder' (by (with_reducible repeat (first|apply Kd.R_alloc | apply Kd.R_drewN | apply Kd.R_drew)); exact HO472.out) (Kd.R_base ho0) hb)
                    have n2_ := Aside0.mk (Kd.R_below (by (with_reducible repeat (first|apply Kd.R_alloc | apply Kd.R_drewN | apply Kd.R_drew)); exact HO505.out) hb)
                    have n3_ := Aside0.mk (Kd.R_elder' (by (with_reducible repeat (first|apply Kd.R_alloc | apply Kd.R_drewN | apply Kd.R_drew)); exact HO508.out) (Kd.R_base ho0) hb)
                    have n4_ := Aside0.mk (Kd.R_below (by (with_reducible repeat (first|apply Kd.R_alloc | apply Kd.R_drewN | apply Kd.R_drew)); exact HO514.out) hb)
                    have n5_ := Aside0.mk (Kd.R_lower (Kd.R_new' (Kd.R_new' ho0 (Kd.R_lt (by (with_reducible repeat (first|apply Kd.R_alloc | apply Kd.R_drewN | apply Kd.R_drew)); exact HO472.out))) (Kd.R_lt (by (with_reducible repeat (first|apply Kd.R_alloc | apply Kd.R_drewN | apply Kd.R_drew)); exact HO508.out))) (below_size (by repeat (first | (with_reducible first | exact HB.out | apply below_alloc | apply pw_below_drewN | apply below_drew1 | refine below_set ?_ GE466.out) | exact HB.out))))
                    have n6_ := Aside0.mk (blk_below (g := gb466) (o := .cells #[.int .i64 a0_0, .int .i64 a0_1, .int .i64 a0_2, .int .i64 a0_3, .int .i64 a0_4, .int .i64 a0_5, .int .i64 a0_6, .bool a0_7, .slice A0_8 l0_8.length c0_8, .int .i64 a0_9, .int .i64 a0_10, .int .i64 a0_11, .slice A0_12 l0_12.length c0_12, .int .i64 a0_13, .int .i64 a0_14, .int .i64 a0_15, .slice A0_16 l0_16.length c0_16] 34 (0, 0)) (by (with_reducible repeat (first | refine blk_drewN ?_ _ | refine blk_drew ?_ | refine blk_alloc ?_ _)); exact BK466.out) hb)
                    have n7_ := Aside0.mk (below_step (by repeat (first | (with_reducible first | exact HB.out | apply below_alloc | apply pw_below_drewN | apply below_drew1 | refine below_set ?_ GE466.out) | exact HB.out)) hb)
                    clear HO469
                    clear HO472
                    clear HO505
                    clear HO508
                    clear HO514
                    clear BK466
                    clear HB
                    have HO469 := n0_
                    have HO472 := n1_
                    have HO505 := n2_
                    have HO508 := n3_
                    have HO514 := n4_
                    have HO511 := n5_
                    have BK466 := n6_
                    have HB := n7_
                    clear n0_ n1_ n2_ n3_ n4_ n5_ n6_ n7_
                    (try clear hb)
                    (try clear hb2)
                    (try clear hk)
                    (try clear hi)
                    (try clear ho0)
                    refine hK.out _ _ ⟨(blk_cell BK466.out 0).trans rfl, (blk_cell BK466.out 1).trans rfl, (blk_cell BK466.out 2).trans rfl, (blk_cell BK466.out 3).trans rfl, (blk_cell BK466.out 4).trans rfl, (blk_cell BK466.out 5).trans rfl, (blk_cell BK466.out 6).trans rfl, (blk_cell BK466.out 7).trans rfl, (blk_cell BK466.out 8).trans rfl, (blk_cell BK466.out 9).trans rfl, (blk_cell BK466.out 10).trans rfl, (blk_cell BK466.out 11).trans rfl, (blk_cell BK466.out 12).trans rfl, (blk_cell BK466.out 13).trans rfl, (blk_cell BK466.out 14).trans rfl, (blk_cell BK466.out 15).trans rfl, (blk_cell BK466.out 16).trans rfl⟩ (fun hHeld => ?_)
                    clear hK K
                    refine norm_ (a' := ?_) ?_ ?_
                    rotate_left
                    · show Act.put _ (some 67) _ = _
                      simp only [Act.put, List.setIfInBounds_toArray, List.set_cons_zero, List.set_cons_succ, i64_w, i32_w]
                      rfl
                    exact norm_ (by simp only [putAll, Act.put, List.setIfInBounds_toArray, List.set_cons_zero, List.set_cons_succ]) (hCont (.slice Ao81 y503.length co81, .slice Ao85 t506.length co85, v510, v513) _ ⟨hHeld, (by (with_reducible repeat (first|apply Kd.R_alloc | apply Kd.R_drewN | apply Kd.R_drew)); exact Kd.R_mono HO469.out (fun _ hk => ⟨hk.1.2, hk.2⟩)), (by (with_reducible repeat (first|apply Kd.R_alloc | apply Kd.R_drewN | apply Kd.R_drew)); exact Kd.R_mono HO472.out (fun _ hk => ⟨hk.1.2, hk.2⟩)), (by (with_reducible repeat (first|apply Kd.R_alloc | apply Kd.R_drewN | apply Kd.R_drew)); exact Kd.R_mono HO505.out (fun _ hk => ⟨hk.1.2, hk.2⟩)), (by (with_reducible repeat (first|apply Kd.R_alloc | apply Kd.R_drewN | apply Kd.R_drew)); exact Kd.R_mono HO508.out (fun _ hk => ⟨hk.1.2, hk.2⟩)), (by (with_reducible repeat (first|apply Kd.R_alloc | apply Kd.R_drewN | apply Kd.R_drew)); exact Kd.R_mono HO511.out (fun _ hk => ⟨hk.1.2, hk.2⟩)), (by (with_reducible repeat (first|apply Kd.R_alloc | apply Kd.R_drewN | apply Kd.R_drew)); exact Kd.R_mono HO514.out (fun _ hk => ⟨hk.1.2, hk.2⟩)), (by (with_reducible repeat (first | refine blk_drewN ?_ _ | refine blk_drew ?_ | refine blk_alloc ?_ _)); exact BK466.out), (by repeat (first | (with_reducible first | exact HB.out | apply below_alloc | apply pw_below_drewN | apply below_drew1 | refine below_set ?_ GE466.out) | exact HB.out))⟩)
                · skip
                  refine Kd.R_lit_step (Kd.int .i64) _ 2 ?hg (N := 70) ?hd (xs := ([a0_4] : List Int)) (inner := [.int .i64 a0_4]) (ok := fun _ => True) (okp := fun _ => True) ?hr ?hp (fun _ hk => hk) trivial (Below.refl _ _) (Nat.le_refl _) (by simp) ?_; (case hd => rfl); (case hg => rfl); (case hr => first | (go_simp; done) | (go_simp; rfl)); (case hp => exact (Reps.one (show Kd.M (Kd.int .i64) _ _ _ a0_4 [.int .i64 a0_4] from rfl) (Reps.none _ _)))
                  intro v513 w81 ho82 hb hg_ hnew_
                  clear hg_ hnew_
                  (first | rw [← Ny512.out] at ho82 | (simp only [Int.reduceToNat] at ho82; rw [← Ny512.out] at ho82))
                  have n0_ := Aside0.mk (Kd.R_elder' (by (with_reducible repeat (first|apply Kd.R_alloc | apply Kd.R_drewN | apply Kd.R_drew)); exact HO469.out) (Kd.R_base ho82) hb)
                  have n1_ := Aside0.mk (Kd.R_below (by (with_reducible repeat (first|apply Kd.R_alloc | apply Kd.R_drewN | apply Kd.R_drew)); exact HO472.out) hb)
                  have n2_ := Aside0.mk (Kd.R_elder' (by (with_reducible repeat (first|apply Kd.R_alloc | apply Kd.R_drewN | apply Kd.R_drew)); exact HO505.out) (Kd.R_base ho82) hb)
                  have n3_ := Aside0.mk (Kd.R_lower (Kd.R_new' (Kd.R_new' ho82 (Kd.R_lt (by (with_reducible repeat (first|apply Kd.R_alloc | apply Kd.R_drewN | apply Kd.R_drew)); exact HO469.out))) (Kd.R_lt (by (with_reducible repeat (first|apply Kd.R_alloc | apply Kd.R_drewN | apply Kd.R_drew)); exact HO505.out))) (below_size (by repeat (first | (with_reducible first | exact HB.out | apply below_alloc | apply pw_below_drewN | apply below_drew1 | refine below_set ?_ GE466.out) | exact HB.out))))
                  have n4_ := Aside0.mk (blk_below (g := gb466) (o := .cells #[.int .i64 a0_0, .int .i64 a0_1, .int .i64 a0_2, .int .i64 a0_3, .int .i64 a0_4, .int .i64 a0_5, .int .i64 a0_6, .bool a0_7, .slice A0_8 l0_8.length c0_8, .int .i64 a0_9, .int .i64 a0_10, .int .i64 a0_11, .slice A0_12 l0_12.length c0_12, .int .i64 a0_13, .int .i64 a0_14, .int .i64 a0_15, .slice A0_16 l0_16.length c0_16] 34 (0, 0)) (by (with_reducible repeat (first | refine blk_drewN ?_ _ | refine blk_drew ?_ | refine blk_alloc ?_ _)); exact BK466.out) hb)
                  have n5_ := Aside0.mk (below_step (by repeat (first | (with_reducible first | exact HB.out | apply below_alloc | apply pw_below_drewN | apply below_drew1 | refine below_set ?_ GE466.out) | exact HB.out)) hb)
                  clear HO469
                  clear HO472
                  clear HO505
                  clear BK466
                  clear HB
                  have HO469 := n0_
                  have HO472 := n1_
                  have HO505 := n2_
                  have HO514 := n3_
                  have BK466 := n4_
                  have HB := n5_
                  clear n0_ n1_ n2_ n3_ n4_ n5_
                  clear hb ho82
                  obtain ⟨Ao83, co83, eo83⟩ := Kd.R_slice HO505.out
                  (first | subst eo83 | (injection eo83 with f1_ f2_ f3_; have f4_ := f1_.symm; have f5_ := f3_.symm; clear f1_ f2_ f3_; subst f4_; subst f5_))
                  refine hK.out _ _ ⟨(blk_cell BK466.out 0).trans rfl, (blk_cell BK466.out 1).trans rfl, (blk_cell BK466.out 2).trans rfl, (blk_cell BK466.out 3).trans rfl, (blk_cell BK466.out 4).trans rfl, (blk_cell BK466.out 5).trans rfl, (blk_cell BK466.out 6).trans rfl, (blk_cell BK466.out 7).trans rfl, (blk_cell BK466.out 8).trans rfl, (blk_cell BK466.out 9).trans rfl, (blk_cell BK466.out 10).trans rfl, (blk_cell BK466.out 11).trans rfl, (blk_cell BK466.out 12).trans rfl, (blk_cell BK466.out 13).trans rfl, (blk_cell BK466.out 14).trans rfl, (blk_cell BK466.out 15).trans rfl, (blk_cell BK466.out 16).trans rfl⟩ (fun hHeld => ?_)
                  clear hK K
                  refine norm_ (a' := ?_) ?_ ?_
                  rotate_left
                  · show Act.put _ (some 70) _ = _
                    simp only [Act.put, List.setIfInBounds_toArray, List.set_cons_zero, List.set_cons_succ, i64_w, i32_w]
                    rfl
                  refine one_ (i := 4) (N := some 64) #[true, true, true, true, true, true, true, false, true, true, true, false, false] rfl rfl (one_of HT_.out (by kernel_rfl)) (by decide) (fun K hK => ?_)
                  refine goes_ Tryz.func97 (by kernel_rfl) rfl #[.slice Ao77 t470.length co77, .slice Ao83 y503.length co83] (by rfl) rfl rfl (by (try simp only [List.map_toArray, List.map_cons, List.map_nil]); first | done | rfl | (simp only [List.length_drop, List.length_take]; rfl)) ?_
                  with_reducible refine (trivetref04_num.calls k _ _ t470 _ _ y503 t506 _ ?side1 ?side2 ?side3 ?side4 A67.out).mono ?_
                  (case side1 => repeat (first | exact (Kd.R_reads' HO472.out).2.2 | (with_reducible refine Kd.C_alloc ?_ _) | (with_reducible refine Kd.C_drewN ?_ _) | (with_reducible refine Kd.C_drew ?_)))
                  (case side2 => exact (Kd.R_reads' HO472.out).2.1)
                  (case side3 => repeat (first | exact (Kd.R_reads' HO505.out).2.2 | (with_reducible refine Kd.C_alloc ?_ _) | (with_reducible refine Kd.C_drewN ?_ _) | (with_reducible refine Kd.C_drew ?_)))
                  (case side4 => exact (Kd.R_reads' HO505.out).2.1)
                  rintro e w84 ⟨v507, rfl, ho0, hb⟩
                  refine ⟨_, rfl, ?_⟩
                  have n0_ := Aside0.mk (Kd.R_below (by (with_reducible repeat (first|apply Kd.R_alloc | apply Kd.R_drewN | apply Kd.R_drew)); exact HO469.out) hb)
                  have n1_ := Aside0.mk (Kd.R_elder' (by (with_reducible repeat (first|apply Kd.R_alloc | apply Kd.R_drewN | apply Kd.R_drew)); exact HO472.out) (Kd.R_base ho0) hb)
                  have n2_ := Aside0.mk (Kd.R_below (by (with_reducible repeat (first|apply Kd.R_alloc | apply Kd.R_drewN | apply Kd.R_drew)); exact HO505.out) hb)
                  have n3_ := Aside0.mk (Kd.R_below (by (with_reducible repeat (first|apply Kd.R_alloc | apply Kd.R_drewN | apply Kd.R_drew)); exact HO514.out) hb)
                  have n4_ := Aside0.mk (Kd.R_lower (Kd.R_new' ho0 (Kd.R_lt (by (with_reducible repeat (first|apply Kd.R_alloc | apply Kd.R_drewN | apply Kd.R_drew)); exact HO472.out))) (below_size (by repeat (first | (with_reducible first | exact HB.out | apply below_alloc | apply pw_below_drewN | apply below_drew1 | refine below_set ?_ GE466.out) | exact HB.out))))
                  have n5_ := Aside0.mk (blk_below (g := gb466) (o := .cells #[.int .i64 a0_0, .int .i64 a0_1, .int .i64 a0_2, .int .i64 a0_3, .int .i64 a0_4, .int .i64 a0_5, .int .i64 a0_6, .bool a0_7, .slice A0_8 l0_8.length c0_8, .int .i64 a0_9, .int .i64 a0_10, .int .i64 a0_11, .slice A0_12 l0_12.length c0_12, .int .i64 a0_13, .int .i64 a0_14, .int .i64 a0_15, .slice A0_16 l0_16.length c0_16] 34 (0, 0)) (by (with_reducible repeat (first | refine blk_drewN ?_ _ | refine blk_drew ?_ | refine blk_alloc ?_ _)); exact BK466.out) hb)
                  have n6_ := Aside0.mk (below_step (by repeat (first | (with_reducible first | exact HB.out | apply below_alloc | apply pw_below_drewN | apply below_drew1 | refine below_set ?_ GE466.out) | exact HB.out)) hb)
                  clear HO469
                  clear HO472
                  clear HO505
                  clear HO514
                  clear BK466
                  clear HB
                  have HO469 := n0_
                  have HO472 := n1_
                  have HO505 := n2_
                  have HO514 := n3_
                  have HO508 := n4_
                  have BK466 := n5_
                  have HB := n6_
                  clear n0_ n1_ n2_ n3_ n4_ n5_ n6_
                  (try clear hb)
                  (try clear hb2)
                  (try clear hk)
                  (try clear hi)
                  (try clear ho0)
                  obtain ⟨Ao85, co85, eo85⟩ := Kd.R_slice HO508.out
                  (first | subst eo85 | (injection eo85 with f1_ f2_ f3_; have f4_ := f1_.symm; have f5_ := f3_.symm; clear f1_ f2_ f3_; subst f4_; subst f5_))
                  refine hK.out _ _ ⟨(blk_cell BK466.out 0).trans rfl, (blk_cell BK466.out 1).trans rfl, (blk_cell BK466.out 2).trans rfl, (blk_cell BK466.out 3).trans rfl, (blk_cell BK466.out 4).trans rfl, (blk_cell BK466.out 5).trans rfl, (blk_cell BK466.out 6).trans rfl, (blk_cell BK466.out 7).trans rfl, (blk_cell BK466.out 8).trans rfl, (blk_cell BK466.out 9).trans rfl, (blk_cell BK466.out 10).trans rfl, (blk_cell BK466.out 11).trans rfl, (blk_cell BK466.out 12).trans rfl, (blk_cell BK466.out 13).trans rfl, (blk_cell BK466.out 14).trans rfl, (blk_cell BK466.out 15).trans rfl, (blk_cell BK466.out 16).trans rfl⟩ (fun hHeld => ?_)
                  clear hK K
                  refine norm_ (a' := ?_) ?_ ?_
                  rotate_left
                  · show Act.put _ (some 64) _ = _
                    simp only [Act.put, List.setIfInBounds_toArray, List.set_cons_zero, List.set_cons_succ, i64_w, i32_w]
                    rfl
                  refine one_ (i := 7) (N := some 67) #[true, true, true, true, true, true, true, true, true, true, true, false, false] rfl rfl (one_of HT_.out (by kernel_rfl)) (by decide) (fun K hK => ?_)
                  refine goes_ Tryz.func104 (by kernel_rfl) rfl #[.slice Ao85 t506.length co85, .bool a0_7] (by rfl) rfl rfl (by (try simp only [List.map_toArray, List.map_cons, List.map_nil]); first | done | rfl | (simp only [List.length_drop, List.length_take]; rfl)) ?_
                  with_reducible refine (trivetref04_yes.calls k _ _ t506 a0_7 t509 _ ?side1 ?side2 A68.out).mono ?_
                  (case side1 => repeat (first | exact (Kd.R_reads' HO508.out).2.2 | (with_reducible refine Kd.C_alloc ?_ _) | (with_reducible refine Kd.C_drewN ?_ _) | (with_reducible refine Kd.C_drew ?_)))
                  (case side2 => exact (Kd.R_reads' HO508.out).2.1)
                  rintro e w86 ⟨v510, rfl, ho0, hb⟩
                  refine ⟨_, rfl, ?_⟩
                  have n0_ := Aside0.mk (Kd.R_below (by (with_reducible repeat (first|apply Kd.R_alloc | apply Kd.R_drewN | apply Kd.R_drew)); exact HO469.out) hb)
                  have n1_ := Aside0.mk (Kd.R_elder' (by (with_reducible repeat (first|apply Kd.R_alloc | apply Kd.R_drewN | apply Kd.R_drew)); exact HO472.out) (Kd.R_base ho0) hb)
                  have n2_ := Aside0.mk (Kd.R_below (by (with_reducible repeat (first|apply Kd.R_alloc | apply Kd.R_drewN | apply Kd.R_drew)); exact HO505.out) hb)
                  have n3_ := Aside0.mk (Kd.R_below (by (with_reducible repeat (first|apply Kd.R_alloc | apply Kd.R_drewN | apply Kd.R_drew)); exact HO514.out) hb)
                  have n4_ := Aside0.mk (Kd.R_elder' (by (with_reducible repeat (first|apply Kd.R_alloc | apply Kd.R_drewN | apply Kd.R_drew)); exact HO508.out) (Kd.R_base ho0) hb)
                  have n5_ := Aside0.mk (Kd.R_lower (Kd.R_new' (Kd.R_new' ho0 (Kd.R_lt (by (with_reducible repeat (first|apply Kd.R_alloc | apply Kd.R_drewN | apply Kd.R_drew)); exact HO472.out))) (Kd.R_lt (by (with_reducible repeat (first|apply Kd.R_alloc | apply Kd.R_drewN | apply Kd.R_drew)); exact HO508.out))) (below_size (by repeat (first | (with_reducible first | exact HB.out | apply below_alloc | apply pw_below_drewN | apply below_drew1 | refine below_set ?_ GE466.out) | exact HB.out))))
                  have n6_ := Aside0.mk (blk_below (g := gb466) (o := .cells #[.int .i64 a0_0, .int .i64 a0_1, .int .i64 a0_2, .int .i64 a0_3, .int .i64 a0_4, .int .i64 a0_5, .int .i64 a0_6, .bool a0_7, .slice A0_8 l0_8.length c0_8, .int .i64 a0_9, .int .i64 a0_10, .int .i64 a0_11, .slice A0_12 l0_12.length c0_12, .int .i64 a0_13, .int .i64 a0_14, .int .i64 a0_15, .slice A0_16 l0_16.length c0_16] 34 (0, 0)) (by (with_reducible repeat (first | refine blk_drewN ?_ _ | refine blk_drew ?_ | refine blk_alloc ?_ _)); exact BK466.out) hb)
                  have n7_ := Aside0.mk (below_step (by repeat (first | (with_reducible first | exact HB.out | apply below_alloc | apply pw_below_drewN | apply below_drew1 | refine below_set ?_ GE466.out) | exact HB.out)) hb)
                  clear HO469
                  clear HO472
                  clear HO505
                  clear HO514
                  clear HO508
                  clear BK466
                  clear HB
                  have HO469 := n0_
                  have HO472 := n1_
                  have HO505 := n2_
                  have HO514 := n3_
                  have HO508 := n4_
                  have HO511 := n5_
                  have BK466 := n6_
                  have HB := n7_
                  clear n0_ n1_ n2_ n3_ n4_ n5_ n6_ n7_
                  (try clear hb)
                  (try clear hb2)
                  (try clear hk)
                  (try clear hi)
                  (try clear ho0)
                  refine hK.out _ _ ⟨(blk_cell BK466.out 0).trans rfl, (blk_cell BK466.out 1).trans rfl, (blk_cell BK466.out 2).trans rfl, (blk_cell BK466.out 3).trans rfl, (blk_cell BK466.out 4).trans rfl, (blk_cell BK466.out 5).trans rfl, (blk_cell BK466.out 6).trans rfl, (blk_cell BK466.out 7).trans rfl, (blk_cell BK466.out 8).trans rfl, (blk_cell BK466.out 9).trans rfl, (blk_cell BK466.out 10).trans rfl, (blk_cell BK466.out 11).trans rfl, (blk_cell BK466.out 12).trans rfl, (blk_cell BK466.out 13).trans rfl, (blk_cell BK466.out 14).trans rfl, (blk_cell BK466.out 15).trans rfl, (blk_cell BK466.out 16).trans rfl⟩ (fun hHeld => ?_)
                  clear hK K
                  refine norm_ (a' := ?_) ?_ ?_
                  rotate_left
                  · show Act.put _ (some 67) _ = _
                    simp only [Act.put, List.setIfInBounds_toArray, List.set_cons_zero, List.set_cons_succ, i64_w, i32_w]
                    rfl
                  exact norm_ (by simp only [putAll, Act.put, List.setIfInBounds_toArray, List.set_cons_zero, List.set_cons_succ]) (hCont (.slice Ao83 y503.length co83, .slice Ao85 t506.length co85, v510, v513) _ ⟨hHeld, (by (with_reducible repeat (first|apply Kd.R_alloc | apply Kd.R_drewN | apply Kd.R_drew)); exact Kd.R_mono HO469.out (fun _ hk => ⟨hk.1.2, hk.2⟩)), (by (with_reducible repeat (first|apply Kd.R_alloc | apply Kd.R_drewN | apply Kd.R_drew)); exact Kd.R_mono HO472.out (fun _ hk => ⟨hk.1.2, hk.2⟩)), (by (with_reducible repeat (first|apply Kd.R_alloc | apply Kd.R_drewN | apply Kd.R_drew)); exact Kd.R_mono HO505.out (fun _ hk => ⟨hk.1.2, hk.2⟩)), (by (with_reducible repeat (first|apply Kd.R_alloc | apply Kd.R_drewN | apply Kd.R_drew)); exact Kd.R_mono HO508.out (fun _ hk => ⟨hk.1.2, hk.2⟩)), (by (with_reducible repeat (first|apply Kd.R_alloc | apply Kd.R_drewN | apply Kd.R_drew)); exact Kd.R_mono HO511.out (fun _ hk => ⟨hk.1.2, hk.2⟩)), (by (with_reducible repeat (first|apply Kd.R_alloc | apply Kd.R_drewN | apply Kd.R_drew)); exact Kd.R_mono HO514.out (fun _ hk => ⟨hk.1.2, hk.2⟩)), (by (with_reducible repeat (first | refine blk_drewN ?_ _ | refine blk_drew ?_ | refine blk_alloc ?_ _)); exact BK466.out), (by repeat (first | (with_reducible first | exact HB.out | apply below_alloc | apply pw_below_drewN | apply below_drew1 | refine below_set ?_ GE466.out) | exact HB.out))⟩)
              · skip
                refine Kd.R_lit_step (Kd.int .i64) _ 2 ?hg (N := 70) ?hd (xs := ([a0_4] : List Int)) (inner := [.int .i64 a0_4]) (ok := fun _ => True) (okp := fun _ => True) ?hr ?hp (fun _ hk => hk) trivial (Below.refl _ _) (Nat.le_refl _) (by simp) ?_; (case hd => rfl); (case hg => rfl); (case hr => first | (go_simp; done) | (go_simp; rfl)); (case hp => exact (Reps.one (show Kd.M (Kd.int .i64) _ _ _ a0_4 [.int .i64 a0_4] from rfl) (Reps.none _ _)))
                intro v513 w79 ho80 hb hg_ hnew_
                clear hg_ hnew_
                (first | rw [← Ny512.out] at ho80 | (simp only [Int.reduceToNat] at ho80; rw [← Ny512.out] at ho80))
                have n0_ := Aside0.mk (Kd.R_elder' (by (with_reducible repeat (first|apply Kd.R_alloc | apply Kd.R_drewN | apply Kd.R_drew)); exact HO469.out) (Kd.R_base ho80) hb)
                have n1_ := Aside0.mk (Kd.R_below (by (with_reducible repeat (first|apply Kd.R_alloc | apply Kd.R_drewN | apply Kd.R_drew)); exact HO472.out) hb)
                have n2_ := Aside0.mk (Kd.R_lower (Kd.R_new' ho80 (Kd.R_lt (by (with_reducible repeat (first|apply Kd.R_alloc | apply Kd.R_drewN | apply Kd.R_drew)); exact HO469.out))) (below_size (by repeat (first | (with_reducible first | exact HB.out | apply below_alloc | apply pw_below_drewN | apply below_drew1 | refine below_set ?_ GE466.out) | exact HB.out))))
                have n3_ := Aside0.mk (blk_below (g := gb466) (o := .cells #[.int .i64 a0_0, .int .i64 a0_1, .int .i64 a0_2, .int .i64 a0_3, .int .i64 a0_4, .int .i64 a0_5, .int .i64 a0_6, .bool a0_7, .slice A0_8 l0_8.length c0_8, .int .i64 a0_9, .int .i64 a0_10, .int .i64 a0_11, .slice A0_12 l0_12.length c0_12, .int .i64 a0_13, .int .i64 a0_14, .int .i64 a0_15, .slice A0_16 l0_16.length c0_16] 34 (0, 0)) (by (with_reducible repeat (first | refine blk_drewN ?_ _ | refine blk_drew ?_ | refine blk_alloc ?_ _)); exact BK466.out) hb)
                have n4_ := Aside0.mk (below_step (by repeat (first | (with_reducible first | exact HB.out | apply below_alloc | apply pw_below_drewN | apply below_drew1 | refine below_set ?_ GE466.out) | exact HB.out)) hb)
                clear HO469
                clear HO472
                clear BK466
                clear HB
                have HO469 := n0_
                have HO472 := n1_
                have HO514 := n2_
                have BK466 := n3_
                have HB := n4_
                clear n0_ n1_ n2_ n3_ n4_
                clear hb ho80
                refine hK.out _ _ ⟨(blk_cell BK466.out 0).trans rfl, (blk_cell BK466.out 1).trans rfl, (blk_cell BK466.out 2).trans rfl, (blk_cell BK466.out 3).trans rfl, (blk_cell BK466.out 4).trans rfl, (blk_cell BK466.out 5).trans rfl, (blk_cell BK466.out 6).trans rfl, (blk_cell BK466.out 7).trans rfl, (blk_cell BK466.out 8).trans rfl, (blk_cell BK466.out 9).trans rfl, (blk_cell BK466.out 10).trans rfl, (blk_cell BK466.out 11).trans rfl, (blk_cell BK466.out 12).trans rfl, (blk_cell BK466.out 13).trans rfl, (blk_cell BK466.out 14).trans rfl, (blk_cell BK466.out 15).trans rfl, (blk_cell BK466.out 16).trans rfl⟩ (fun hHeld => ?_)
                clear hK K
                refine norm_ (a' := ?_) ?_ ?_
                rotate_left
                · show Act.put _ (some 70) _ = _
                  simp only [Act.put, List.setIfInBounds_toArray, List.set_cons_zero, List.set_cons_succ, i64_w, i32_w]
                  rfl
                refine one_ (i := 3) (N := some 63) #[true, true, true, true, false, true, true, false, true, true, true, false, false] rfl rfl (one_of HT_.out (by kernel_rfl)) (by decide) (fun K hK => ?_)
                refine Kd.R_lit_step (Kd.int .i64) _ 2 ?hg (N := 63) ?hd (xs := ([a0_3] : List Int)) (inner := [.int .i64 a0_3]) (ok := fun _ => True) (okp := fun _ => True) ?hr ?hp (fun _ hk => hk) trivial (Below.refl _ _) (Nat.le_refl _) (by simp) ?_; (case hd => rfl); (case hg => rfl); (case hr => first | (go_simp; done) | (go_simp; rfl)); (case hp => exact (Reps.one (show Kd.M (Kd.int .i64) _ _ _ a0_3 [.int .i64 a0_3] from rfl) (Reps.none _ _)))
                intro v504 w81 ho82 hb hg_ hnew_
                clear hg_ hnew_
                (first | rw [← Ny503.out] at ho82 | (simp only [Int.reduceToNat] at ho82; rw [← Ny503.out] at ho82))
                have n0_ := Aside0.mk (Kd.R_elder' (by (with_reducible repeat (first|apply Kd.R_alloc | apply Kd.R_drewN | apply Kd.R_drew)); exact HO469.out) (Kd.R_base ho82) hb)
                have n1_ := Aside0.mk (Kd.R_below (by (with_reducible repeat (first|apply Kd.R_alloc | apply Kd.R_drewN | apply Kd.R_drew)); exact HO472.out) hb)
                have n2_ := Aside0.mk (Kd.R_elder' (by (with_reducible repeat (first|apply Kd.R_alloc | apply Kd.R_drewN | apply Kd.R_drew)); exact HO514.out) (Kd.R_base ho82) hb)
                have n3_ := Aside0.mk (Kd.R_lower (Kd.R_new' (Kd.R_new' ho82 (Kd.R_lt (by (with_reducible repeat (first|apply Kd.R_alloc | apply Kd.R_drewN | apply Kd.R_drew)); exact HO469.out))) (Kd.R_lt (by (with_reducible repeat (first|apply Kd.R_alloc | apply Kd.R_drewN | apply Kd.R_drew)); exact HO514.out))) (below_size (by repeat (first | (with_reducible first | exact HB.out | apply below_alloc | apply pw_below_drewN | apply below_drew1 | refine below_set ?_ GE466.out) | exact HB.out))))
                have n4_ := Aside0.mk (blk_below (g := gb466) (o := .cells #[.int .i64 a0_0, .int .i64 a0_1, .int .i64 a0_2, .int .i64 a0_3, .int .i64 a0_4, .int .i64 a0_5, .int .i64 a0_6, .bool a0_7, .slice A0_8 l0_8.length c0_8, .int .i64 a0_9, .int .i64 a0_10, .int .i64 a0_11, .slice A0_12 l0_12.length c0_12, .int .i64 a0_13, .int .i64 a0_14, .int .i64 a0_15, .slice A0_16 l0_16.length c0_16] 34 (0, 0)) (by (with_reducible repeat (first | refine blk_drewN ?_ _ | refine blk_drew ?_ | refine blk_alloc ?_ _)); exact BK466.out) hb)
                have n5_ := Aside0.mk (below_step (by repeat (first | (with_reducible first | exact HB.out | apply below_alloc | apply pw_below_drewN | apply below_drew1 | refine below_set ?_ GE466.out) | exact HB.out)) hb)
                clear HO469
                clear HO472
                clear HO514
                clear BK466
                clear HB
                have HO469 := n0_
                have HO472 := n1_
                have HO514 := n2_
                have HO505 := n3_
                have BK466 := n4_
                have HB := n5_
                clear n0_ n1_ n2_ n3_ n4_ n5_
                clear hb ho82
                obtain ⟨Ao83, co83, eo83⟩ := Kd.R_slice HO505.out
                (first | subst eo83 | (injection eo83 with f1_ f2_ f3_; have f4_ := f1_.symm; have f5_ := f3_.symm; clear f1_ f2_ f3_; subst f4_; subst f5_))
                refine hK.out _ _ ⟨(blk_cell BK466.out 0).trans rfl, (blk_cell BK466.out 1).trans rfl, (blk_cell BK466.out 2).trans rfl, (blk_cell BK466.out 3).trans rfl, (blk_cell BK466.out 4).trans rfl, (blk_cell BK466.out 5).trans rfl, (blk_cell BK466.out 6).trans rfl, (blk_cell BK466.out 7).trans rfl, (blk_cell BK466.out 8).trans rfl, (blk_cell BK466.out 9).trans rfl, (blk_cell BK466.out 10).trans rfl, (blk_cell BK466.out 11).trans rfl, (blk_cell BK466.out 12).trans rfl, (blk_cell BK466.out 13).trans rfl, (blk_cell BK466.out 14).trans rfl, (blk_cell BK466.out 15).trans rfl, (blk_cell BK466.out 16).trans rfl⟩ (fun hHeld => ?_)
                clear hK K
                refine norm_ (a' := ?_) ?_ ?_
                rotate_left
                · show Act.put _ (some 63) _ = _
                  simp only [Act.put, List.setIfInBounds_toArray, List.set_cons_zero, List.set_cons_succ, i64_w, i32_w]
                  rfl
                refine one_ (i := 4) (N := some 64) #[true, true, true, true, true, true, true, false, true, true, true, false, false] rfl rfl (one_of HT_.out (by kernel_rfl)) (by decide) (fun K hK => ?_)
                refine goes_ Tryz.func97 (by kernel_rfl) rfl #[.slice Ao77 t470.length co77, .slice Ao83 y503.length co83] (by rfl) rfl rfl (by (try simp only [List.map_toArray, List.map_cons, List.map_nil]); first | done | rfl | (simp only [List.length_drop, List.length_take]; rfl)) ?_
                with_reducible refine (trivetref04_num.calls k _ _ t470 _ _ y503 t506 _ ?side1 ?side2 ?side3 ?side4 A67.out).mono ?_
                (case side1 => repeat (first | exact (Kd.R_reads' HO472.out).2.2 | (with_reducible refine Kd.C_alloc ?_ _) | (with_reducible refine Kd.C_drewN ?_ _) | (with_reducible refine Kd.C_drew ?_)))
                (case side2 => exact (Kd.R_reads' HO472.out).2.1)
                (case side3 => repeat (first | exact (Kd.R_reads' HO505.out).2.2 | (with_reducible refine Kd.C_alloc ?_ _) | (with_reducible refine Kd.C_drewN ?_ _) | (with_reducible refine Kd.C_drew ?_)))
                (case side4 => exact (Kd.R_reads' HO505.out).2.1)
                rintro e w84 ⟨v507, rfl, ho0, hb⟩
                refine ⟨_, rfl, ?_⟩
                have n0_ := Aside0.mk (Kd.R_below (by (with_reducible repeat (first|apply Kd.R_alloc | apply Kd.R_drewN | apply Kd.R_drew)); exact HO469.out) hb)
                have n1_ := Aside0.mk (Kd.R_elder' (by (with_reducible repeat (first|apply Kd.R_alloc | apply Kd.R_drewN | apply Kd.R_drew)); exact HO472.out) (Kd.R_base ho0) hb)
                have n2_ := Aside0.mk (Kd.R_below (by (with_reducible repeat (first|apply Kd.R_alloc | apply Kd.R_drewN | apply Kd.R_drew)); exact HO514.out) hb)
                have n3_ := Aside0.mk (Kd.R_below (by (with_reducible repeat (first|apply Kd.R_alloc | apply Kd.R_drewN | apply Kd.R_drew)); exact HO505.out) hb)
                have n4_ := Aside0.mk (Kd.R_lower (Kd.R_new' ho0 (Kd.R_lt (by (with_reducible repeat (first|apply Kd.R_alloc | apply Kd.R_drewN | apply Kd.R_drew)); exact HO472.out))) (below_size (by repeat (first | (with_reducible first | exact HB.out | apply below_alloc | apply pw_below_drewN | apply below_drew1 | refine below_set ?_ GE466.out) | exact HB.out))))
                have n5_ := Aside0.mk (blk_below (g := gb466) (o := .cells #[.int .i64 a0_0, .int .i64 a0_1, .int .i64 a0_2, .int .i64 a0_3, .int .i64 a0_4, .int .i64 a0_5, .int .i64 a0_6, .bool a0_7, .slice A0_8 l0_8.length c0_8, .int .i64 a0_9, .int .i64 a0_10, .int .i64 a0_11, .slice A0_12 l0_12.length c0_12, .int .i64 a0_13, .int .i64 a0_14, .int .i64 a0_15, .slice A0_16 l0_16.length c0_16] 34 (0, 0)) (by (with_reducible repeat (first | refine blk_drewN ?_ _ | refine blk_drew ?_ | refine blk_alloc ?_ _)); exact BK466.out) hb)
                have n6_ := Aside0.mk (below_step (by repeat (first | (with_reducible first | exact HB.out | apply below_alloc | apply pw_below_drewN | apply below_drew1 | refine below_set ?_ GE466.out) | exact HB.out)) hb)
                clear HO469
                clear HO472
                clear HO514
                clear HO505
                clear BK466
                clear HB
                have HO469 := n0_
                have HO472 := n1_
                have HO514 := n2_
                have HO505 := n3_
                have HO508 := n4_
                have BK466 := n5_
                have HB := n6_
                clear n0_ n1_ n2_ n3_ n4_ n5_ n6_
                (try clear hb)
                (try clear hb2)
                (try clear hk)
                (try clear hi)
                (try clear ho0)
                obtain ⟨Ao85, co85, eo85⟩ := Kd.R_slice HO508.out
                (first | subst eo85 | (injection eo85 with f1_ f2_ f3_; have f4_ := f1_.symm; have f5_ := f3_.symm; clear f1_ f2_ f3_; subst f4_; subst f5_))
                refine hK.out _ _ ⟨(blk_cell BK466.out 0).trans rfl, (blk_cell BK466.out 1).trans rfl, (blk_cell BK466.out 2).trans rfl, (blk_cell BK466.out 3).trans rfl, (blk_cell BK466.out 4).trans rfl, (blk_cell BK466.out 5).trans rfl, (blk_cell BK466.out 6).trans rfl, (blk_cell BK466.out 7).trans rfl, (blk_cell BK466.out 8).trans rfl, (blk_cell BK466.out 9).trans rfl, (blk_cell BK466.out 10).trans rfl, (blk_cell BK466.out 11).trans rfl, (blk_cell BK466.out 12).trans rfl, (blk_cell BK466.out 13).trans rfl, (blk_cell BK466.out 14).trans rfl, (blk_cell BK466.out 15).trans rfl, (blk_cell BK466.out 16).trans rfl⟩ (fun hHeld => ?_)
                clear hK K
                refine norm_ (a' := ?_) ?_ ?_
                rotate_left
                · show Act.put _ (some 64) _ = _
                  simp only [Act.put, List.setIfInBounds_toArray, List.set_cons_zero, List.set_cons_succ, i64_w, i32_w]
                  rfl
                refine one_ (i := 7) (N := some 67) #[true, true, true, true, true, true, true, true, true, true, true, false, false] rfl rfl (one_of HT_.out (by kernel_rfl)) (by decide) (fun K hK => ?_)
                refine goes_ Tryz.func104 (by kernel_rfl) rfl #[.slice Ao85 t506.length co85, .bool a0_7] (by rfl) rfl rfl (by (try simp only [List.map_toArray, List.map_cons, List.map_nil]); first | done | rfl | (simp only [List.length_drop, List.length_take]; rfl)) ?_
                with_reducible refine (trivetref04_yes.calls k _ _ t506 a0_7 t509 _ ?side1 ?side2 A68.out).mono ?_
                (case side1 => repeat (first | exact (Kd.R_reads' HO508.out).2.2 | (with_reducible refine Kd.C_alloc ?_ _) | (with_reducible refine Kd.C_drewN ?_ _) | (with_reducible refine Kd.C_drew ?_)))
                (case side2 => exact (Kd.R_reads' HO508.out).2.1)
                rintro e w86 ⟨v510, rfl, ho0, hb⟩
                refine ⟨_, rfl, ?_⟩
                have n0_ := Aside0.mk (Kd.R_below (by (with_reducible repeat (first|apply Kd.R_alloc | apply Kd.R_drewN | apply Kd.R_drew)); exact HO469.out) hb)
                have n1_ := Aside0.mk (Kd.R_elder' (by (with_reducible repeat (first|apply Kd.R_alloc | apply Kd.R_drewN | apply Kd.R_drew)); exact HO472.out) (Kd.R_base ho0) hb)
                have n2_ := Aside0.mk (Kd.R_below (by (with_reducible repeat (first|apply Kd.R_alloc | apply Kd.R_drewN | apply Kd.R_drew)); exact HO514.out) hb)
                have n3_ := Aside0.mk (Kd.R_below (by (with_reducible repeat (first|apply Kd.R_alloc | apply Kd.R_drewN | apply Kd.R_drew)); exact HO505.out) hb)
                have n4_ := Aside0.mk (Kd.R_elder' (by (with_reducible repeat (first|apply Kd.R_alloc | apply Kd.R_drewN | apply Kd.R_drew)); exact HO508.out) (Kd.R_base ho0) hb)
                have n5_ := Aside0.mk (Kd.R_lower (Kd.R_new' (Kd.R_new' ho0 (Kd.R_lt (by (with_reducible repeat (first|apply Kd.R_alloc | apply Kd.R_drewN | apply Kd.R_drew)); exact HO472.out))) (Kd.R_lt (by (with_reducible repeat (first|apply Kd.R_alloc | apply Kd.R_drewN | apply Kd.R_drew)); exact HO508.out))) (below_size (by repeat (first | (with_reducible first | exact HB.out | apply below_alloc | apply pw_below_drewN | apply below_drew1 | refine below_set ?_ GE466.out) | exact HB.out))))
                have n6_ := Aside0.mk (blk_below (g := gb466) (o := .cells #[.int .i64 a0_0, .int .i64 a0_1, .int .i64 a0_2, .int .i64 a0_3, .int .i64 a0_4, .int .i64 a0_5, .int .i64 a0_6, .bool a0_7, .slice A0_8 l0_8.length c0_8, .int .i64 a0_9, .int .i64 a0_10, .int .i64 a0_11, .slice A0_12 l0_12.length c0_12, .int .i64 a0_13, .int .i64 a0_14, .int .i64 a0_15, .slice A0_16 l0_16.length c0_16] 34 (0, 0)) (by (with_reducible repeat (first | refine blk_drewN ?_ _ | refine blk_drew ?_ | refine blk_alloc ?_ _)); exact BK466.out) hb)
                have n7_ := Aside0.mk (below_step (by repeat (first | (with_reducible first | exact HB.out | apply below_alloc | apply pw_below_drewN | apply below_drew1 | refine below_set ?_ GE466.out) | exact HB.out)) hb)
                clear HO469
                clear HO472
                clear HO514
                clear HO505
                clear HO508
                clear BK466
                clear HB
                have HO469 := n0_
                have HO472 := n1_
                have HO514 := n2_
                have HO505 := n3_
                have HO508 := n4_
                have HO511 := n5_
                have BK466 := n6_
                have HB := n7_
                clear n0_ n1_ n2_ n3_ n4_ n5_ n6_ n7_
                (try clear hb)
                (try clear hb2)
                (try clear hk)
                (try clear hi)
                (try clear ho0)
                refine hK.out _ _ ⟨(blk_cell BK466.out 0).trans rfl, (blk_cell BK466.out 1).trans rfl, (blk_cell BK466.out 2).trans rfl, (blk_cell BK466.out 3).trans rfl, (blk_cell BK466.out 4).trans rfl, (blk_cell BK466.out 5).trans rfl, (blk_cell BK466.out 6).trans rfl, (blk_cell BK466.out 7).trans rfl, (blk_cell BK466.out 8).trans rfl, (blk_cell BK466.out 9).trans rfl, (blk_cell BK466.out 10).trans rfl, (blk_cell BK466.out 11).trans rfl, (blk_cell BK466.out 12).trans rfl, (blk_cell BK466.out 13).trans rfl, (blk_cell BK466.out 14).trans rfl, (blk_cell BK466.out 15).trans rfl, (blk_cell BK466.out 16).trans rfl⟩ (fun hHeld => ?_)
                clear hK K
                refine norm_ (a' := ?_) ?_ ?_
                rotate_left
                · show Act.put _ (some 67) _ = _
                  simp only [Act.put, List.setIfInBounds_toArray, List.set_cons_zero, List.set_cons_succ, i64_w, i32_w]
                  rfl
                exact norm_ (by simp only [putAll, Act.put, List.setIfInBounds_toArray, List.set_cons_zero, List.set_cons_succ]) (hCont (.slice Ao83 y503.length co83, .slice Ao85 t506.length co85, v510, v513) _ ⟨hHeld, (by (with_reducible repeat (first|apply Kd.R_alloc | apply Kd.R_drewN | apply Kd.R_drew)); exact Kd.R_mono HO469.out (fun _ hk => ⟨hk.2, hk.1.2⟩)), (by (with_reducible repeat (first|apply Kd.R_alloc | apply Kd.R_drewN | apply Kd.R_drew)); exact Kd.R_mono HO472.out (fun _ hk => ⟨hk.1.2, hk.2⟩)), (by (with_reducible repeat (first|apply Kd.R_alloc | apply Kd.R_drewN | apply Kd.R_drew)); exact Kd.R_mono HO505.out (fun _ hk => ⟨hk.1.2, hk.2⟩)), (by (with_reducible repeat (first|apply Kd.R_alloc | apply Kd.R_drewN | apply Kd.R_drew)); exact Kd.R_mono HO508.out (fun _ hk => ⟨hk.1.2, hk.2⟩)), (by (with_reducible repeat (first|apply Kd.R_alloc | apply Kd.R_drewN | apply Kd.R_drew)); exact Kd.R_mono HO511.out (fun _ hk => ⟨hk.1.2, hk.2⟩)), (by (with_reducible repeat (first|apply Kd.R_alloc | apply Kd.R_drewN | apply Kd.R_drew)); exact Kd.R_mono HO514.out (fun _ hk => ⟨hk.1.2, hk.2⟩)), (by (with_reducible repeat (first | refine blk_drewN ?_ _ | refine blk_drew ?_ | refine blk_alloc ?_ _)); exact BK466.out), (by repeat (first | (with_reducible first | exact HB.out | apply below_alloc | apply pw_below_drewN | apply below_drew1 | refine below_set ?_ GE466.out) | exact HB.out))⟩)
            rintro ⟨v504, v507, v510, v513⟩ w87 ⟨hS_, h0_, h1_, h2_, h3_, h4_, h5_, h6_, h7_⟩
            have n0_ : Aside0 (Kd.R (Kd.int .i64) 2 w87 w.heap.size (fun k_ => some k_ ≠ (v504 : Value).ownBlock ∧ some k_ ≠ (v513 : Value).ownBlock) (.slice Ao74 y467.length co74) y467) := ⟨h0_⟩
            have n1_ : Aside0 (Kd.R (Kd.int .u8) 5 w87 w.heap.size (fun k_ => some k_ ≠ (v507 : Value).ownBlock ∧ some k_ ≠ (v510 : Value).ownBlock) (.slice Ao77 t470.length co77) t470) := ⟨h1_⟩
            have n2_ : Aside0 (Kd.R (Kd.int .i64) 2 w87 w.heap.size (fun k_ => some k_ ≠ (.slice Ao74 y467.length co74 : Value).ownBlock ∧ some k_ ≠ (v513 : Value).ownBlock) v504 y503) := ⟨h2_⟩
            have n3_ : Aside0 (Kd.R (Kd.int .u8) 5 w87 w.heap.size (fun k_ => some k_ ≠ (.slice Ao77 t470.length co77 : Value).ownBlock ∧ some k_ ≠ (v510 : Value).ownBlock) v507 t506) := ⟨h3_⟩
            have n4_ : Aside0 (Kd.R (Kd.int .u8) 5 w87 w.heap.size (fun k_ => some k_ ≠ (.slice Ao77 t470.length co77 : Value).ownBlock ∧ some k_ ≠ (v507 : Value).ownBlock) v510 t509) := ⟨h4_⟩
            have n5_ : Aside0 (Kd.R (Kd.int .i64) 2 w87 w.heap.size (fun k_ => some k_ ≠ (.slice Ao74 y467.length co74 : Value).ownBlock ∧ some k_ ≠ (v504 : Value).ownBlock) v513 y512) := ⟨h5_⟩
            have n6_ : Aside0 (w87.heap[gb466]? = some (.cells #[.int .i64 a0_0, .int .i64 a0_1, .int .i64 a0_2, .int .i64 a0_3, .int .i64 a0_4, .int .i64 a0_5, .int .i64 a0_6, .bool a0_7, .slice A0_8 l0_8.length c0_8, .int .i64 a0_9, .int .i64 a0_10, .int .i64 a0_11, .slice A0_12 l0_12.length c0_12, .int .i64 a0_13, .int .i64 a0_14, .int .i64 a0_15, .slice A0_16 l0_16.length c0_16] 34 (0, 0))) := ⟨h6_⟩
            have n7_ : Aside0 (Below w.heap.size w w87) := ⟨h7_⟩
            clear HO469
            clear HO472
            clear BK466
            clear HB
            clear h0_ h1_ h2_ h3_ h4_ h5_ h6_ h7_
            have HO469 := n0_
            have HO472 := n1_
            have HO505 := n2_
            have HO508 := n3_
            have HO511 := n4_
            have HO514 := n5_
            have BK466 := n6_
            have HB := n7_
            clear n0_ n1_ n2_ n3_ n4_ n5_ n6_ n7_
            have hHeld : w87.cell? ⟨gb466, 0, none⟩ = some (.int .i64 a0_0) ∧ w87.cell? ⟨gb466, 1, none⟩ = some (.int .i64 a0_1) ∧ w87.cell? ⟨gb466, 2, none⟩ = some (.int .i64 a0_2) ∧ w87.cell? ⟨gb466, 3, none⟩ = some (.int .i64 a0_3) ∧ w87.cell? ⟨gb466, 4, none⟩ = some (.int .i64 a0_4) ∧ w87.cell? ⟨gb466, 5, none⟩ = some (.int .i64 a0_5) ∧ w87.cell? ⟨gb466, 6, none⟩ = some (.int .i64 a0_6) ∧ w87.cell? ⟨gb466, 7, none⟩ = some (.bool a0_7) ∧ w87.cell? ⟨gb466, 8, none⟩ = some (.slice A0_8 l0_8.length c0_8) ∧ w87.cell? ⟨gb466, 9, none⟩ = some (.int .i64 a0_9) ∧ w87.cell? ⟨gb466, 10, none⟩ = some (.int .i64 a0_10) ∧ w87.cell? ⟨gb466, 11, none⟩ = some (.int .i64 a0_11) ∧ w87.cell? ⟨gb466, 12, none⟩ = some (.slice A0_12 l0_12.length c0_12) ∧ w87.cell? ⟨gb466, 13, none⟩ = some (.int .i64 a0_13) ∧ w87.cell? ⟨gb466, 14, none⟩ = some (.int .i64 a0_14) ∧ w87.cell? ⟨gb466, 15, none⟩ = some (.int .i64 a0_15) ∧ w87.cell? ⟨gb466, 16, none⟩ = some (.slice A0_16 l0_16.length c0_16) := hS_
            obtain ⟨Ao88, co88, eo88⟩ := Kd.R_slice HO511.out
            (first | subst eo88 | (injection eo88 with f1_ f2_ f3_; have f4_ := f1_.symm; have f5_ := f3_.symm; clear f1_ f2_ f3_; subst f4_; subst f5_))
            obtain ⟨Ao89, co89, eo89⟩ := Kd.R_slice HO514.out
            (first | subst eo89 | (injection eo89 with f1_ f2_ f3_; have f4_ := f1_.symm; have f5_ := f3_.symm; clear f1_ f2_ f3_; subst f4_; subst f5_))
            refine norm_ (a' := ?_) ?_ ?_
            rotate_left
            · simp only [putAll, Act.put, List.setIfInBounds_toArray, List.set_cons_zero, List.set_cons_succ]
              rfl
            refine one_ (i := 11) (N := some 71) #[true, true, true, true, true, true, true, true, true, true, true, true, false] rfl rfl (one_of HT_.out (by kernel_rfl)) (by decide) (fun K hK => ?_)
            refine goes_ Tryz.func97 (by kernel_rfl) rfl #[.slice Ao88 t509.length co88, .slice Ao89 y512.length co89] (by rfl) rfl rfl (by (try simp only [List.map_toArray, List.map_cons, List.map_nil]); first | done | rfl | (simp only [List.length_drop, List.length_take]; rfl)) ?_
            with_reducible refine (trivetref04_num.calls k _ _ t509 _ _ y512 t515 _ ?side1 ?side2 ?side3 ?side4 A69.out).mono ?_
            (case side1 => repeat (first | exact (Kd.R_reads' HO511.out).2.2 | (with_reducible refine Kd.C_alloc ?_ _) | (with_reducible refine Kd.C_drewN ?_ _) | (with_reducible refine Kd.C_drew ?_)))
            (case side2 => exact (Kd.R_reads' HO511.out).2.1)
            (case side3 => repeat (first | exact (Kd.R_reads' HO514.out).2.2 | (with_reducible refine Kd.C_alloc ?_ _) | (with_reducible refine Kd.C_drewN ?_ _) | (with_reducible refine Kd.C_drew ?_)))
            (case side4 => exact (Kd.R_reads' HO514.out).2.1)
            rintro e w90 ⟨v516, rfl, ho0, hb⟩
            refine ⟨_, rfl, ?_⟩
            have n0_ := Aside0.mk (Kd.R_below (by (with_reducible repeat (first|apply Kd.R_alloc | apply Kd.R_drewN | apply Kd.R_drew)); exact HO469.out) hb)
            have n1_ := Aside0.mk (Kd.R_elder' (by (with_reducible repeat (first|apply Kd.R_alloc | apply Kd.R_drewN | apply Kd.R_drew)); exact HO472.out) (Kd.R_base ho0) hb)
            have n2_ := Aside0.mk (Kd.R_below (by (with_reducible repeat (first|apply Kd.R_alloc | apply Kd.R_drewN | apply Kd.R_drew)); exact HO505.out) hb)
            have n3_ := Aside0.mk (Kd.R_elder' (by (with_reducible repeat (first|apply Kd.R_alloc | apply Kd.R_drewN | apply Kd.R_drew)); exact HO508.out) (Kd.R_base ho0) hb)
            have n4_ := Aside0.mk (Kd.R_elder' (by (with_reducible repeat (first|apply Kd.R_alloc | apply Kd.R_drewN | apply Kd.R_drew)); exact HO511.out) (Kd.R_base ho0) hb)
            have n5_ := Aside0.mk (Kd.R_below (by (with_reducible repeat (first|apply Kd.R_alloc | apply Kd.R_drewN | apply Kd.R_drew)); exact HO514.out) hb)
            have n6_ := Aside0.mk (Kd.R_lower (Kd.R_new' (Kd.R_new' (Kd.R_new' ho0 (Kd.R_lt (by (with_reducible repeat (first|apply Kd.R_alloc | apply Kd.R_drewN | apply Kd.R_drew)); exact HO472.out))) (Kd.R_lt (by (with_reducible repeat (first|apply Kd.R_alloc | apply Kd.R_drewN | apply Kd.R_drew)); exact HO508.out))) (Kd.R_lt (by (with_reducible repeat (first|apply Kd.R_alloc | apply Kd.R_drewN | apply Kd.R_drew)); exact HO511.out))) (below_size (by repeat (first | (with_reducible first | exact HB.out | apply below_alloc | apply pw_below_drewN | apply below_drew1 | refine below_set ?_ GE466.out) | exact HB.out))))
            have n7_ := Aside0.mk (blk_below (g := gb466) (o := .cells #[.int .i64 a0_0, .int .i64 a0_1, .int .i64 a0_2, .int .i64 a0_3, .int .i64 a0_4, .int .i64 a0_5, .int .i64 a0_6, .bool a0_7, .slice A0_8 l0_8.length c0_8, .int .i64 a0_9, .int .i64 a0_10, .int .i64 a0_11, .slice A0_12 l0_12.length c0_12, .int .i64 a0_13, .int .i64 a0_14, .int .i64 a0_15, .slice A0_16 l0_16.length c0_16] 34 (0, 0)) (by (with_reducible repeat (first | refine blk_drewN ?_ _ | refine blk_drew ?_ | refine blk_alloc ?_ _)); exact BK466.out) hb)
            have n8_ := Aside0.mk (below_step (by repeat (first | (with_reducible first | exact HB.out | apply below_alloc | apply pw_below_drewN | apply below_drew1 | refine below_set ?_ GE466.out) | exact HB.out)) hb)
            clear HO469
            clear HO472
            clear HO505
            clear HO508
            clear HO511
            clear HO514
            clear BK466
            clear HB
            have HO469 := n0_
            have HO472 := n1_
            have HO505 := n2_
            have HO508 := n3_
            have HO511 := n4_
            have HO514 := n5_
            have HO517 := n6_
            have BK466 := n7_
            have HB := n8_
            clear n0_ n1_ n2_ n3_ n4_ n5_ n6_ n7_ n8_
            (try clear hb)
            (try clear hb2)
            (try clear hk)
            (try clear hi)
            (try clear ho0)
            refine hK.out _ _ ⟨(blk_cell BK466.out 0).trans rfl, (blk_cell BK466.out 1).trans rfl, (blk_cell BK466.out 2).trans rfl, (blk_cell BK466.out 3).trans rfl, (blk_cell BK466.out 4).trans rfl, (blk_cell BK466.out 5).trans rfl, (blk_cell BK466.out 6).trans rfl, (blk_cell BK466.out 7).trans rfl, (blk_cell BK466.out 8).trans rfl, (blk_cell BK466.out 9).trans rfl, (blk_cell BK466.out 10).trans rfl, (blk_cell BK466.out 11).trans rfl, (blk_cell BK466.out 12).trans rfl, (blk_cell BK466.out 13).trans rfl, (blk_cell BK466.out 14).trans rfl, (blk_cell BK466.out 15).trans rfl, (blk_cell BK466.out 16).trans rfl⟩ (fun hHeld => ?_)
            clear hK K
            refine norm_ (a' := ?_) ?_ ?_
            rotate_left
            · show Act.put _ (some 71) _ = _
              simp only [Act.put, List.setIfInBounds_toArray, List.set_cons_zero, List.set_cons_succ, i64_w, i32_w]
              rfl
            refine pure_ (i := 12) (N := some 2) (v := ?_) (a' := ?_) #[true, true, true, true, true, true, true, true, true, true, true, true, true] rfl rfl (any_of HT_.out (by kernel_rfl)) (fun _ _ _ h => h) (Or.inl ⟨by rfl, ?_⟩) ?_ ?_
            rotate_left
            · intro w'
              go_simp
              with_reducible rfl
            rotate_left
            · simp only [Act.put, List.setIfInBounds_toArray, List.set_cons_zero, List.set_cons_succ, i64_w, i32_w]
              rfl
            refine done_ (done_of HT_.out (by kernel_rfl)) ?_
            try go_wp2
            go_ret
            exact ⟨_, by first | rfl | (simp [errW_none, errW_some] <;> rfl) | (simp [*, errW_none, errW_some] <;> rfl), by (with_reducible repeat (first|apply Kd.R_alloc | apply Kd.R_drewN | apply Kd.R_drew)); exact Kd.R_mono HO517.out (fun _ hk => trivial), by repeat (first | (with_reducible first | exact HB.out | apply below_alloc | apply pw_below_drewN | apply below_drew1 | refine below_set ?_ GE466.out) | exact HB.out)⟩
          · rw [if_neg c66] at H
            have c66b0 : (a0_0 == 4) = false := beq_eq_false_iff_ne.mpr c66
            have c66b1 : (a0_0 != 4) = true := bne_iff_ne.mpr c66
            obtain ⟨y518, hy518⟩ : ∃ y_ : List Int, y_ = (([a0_3, a0_4, a0_5] : List Int)) := ⟨_, rfl⟩
            replace H : ((trivetref04_num.f k t470 y518).bind fun t521 => ((trivetref04_PartForm.f k a0_13 a0_14 a0_15 l0_16).bind fun t524 => (if t521.length + t524.length < 140737488355328 then (some (t521 ++ t524)) else (none)))) = some r := by first | (rw [hy518]; with_reducible exact H) | (have H2_ := (Option.bind_some _ _).symm.trans H; rw [hy518]; with_reducible exact H2_) | (have H2_ := (Option.bind_some _ _).symm.trans H; with_reducible exact H2_) | with_reducible exact H | (rw [hy518]; exact H) | exact H
            have Ny518 := Aside0.mk hy518
            clear hy518
            replace H := Option.bind_eq_some_iff.mp H
            obtain ⟨t521, A910, H⟩ := H
            replace H : ((trivetref04_PartForm.f k a0_13 a0_14 a0_15 l0_16).bind fun t524 => (if t521.length + t524.length < 140737488355328 then (some (t521 ++ t524)) else (none))) = some r := H
            have A91 := Aside0.mk A910
            clear A910
            replace H := Option.bind_eq_some_iff.mp H
            obtain ⟨t524, A920, H⟩ := H
            replace H : (if t521.length + t524.length < 140737488355328 then (some (t521 ++ t524)) else (none)) = some r := H
            have A92 := Aside0.mk A920
            clear A920
            by_cases c93 : t521.length + t524.length < 140737488355328
            · rw [if_pos c93] at H
              have LMc93 := Aside0.mk c93
              clear c93
              obtain ⟨y527, hy527⟩ : ∃ y_ : List Int, y_ = (t521 ++ t524) := ⟨_, rfl⟩
              replace H : (some y527) = some r := by first | (rw [hy527]; with_reducible exact H) | (have H2_ := (Option.bind_some _ _).symm.trans H; rw [hy527]; with_reducible exact H2_) | (have H2_ := (Option.bind_some _ _).symm.trans H; with_reducible exact H2_) | with_reducible exact H | (rw [hy527]; exact H) | exact H
              have Ny527 := Aside0.mk hy527
              clear hy527
              obtain rfl := Option.some.inj H
              go_enter Tryz.func52, Tryz.ntmps52
              try go_wp2_with (first | ((with_reducible refine gate_dst (N := 1) rfl ?_); refine box_event ?hg (N := 1) ?hd (cs := #[.int .i64 a0_0, .int .i64 a0_1, .int .i64 a0_2, .int .i64 a0_3, .int .i64 a0_4, .int .i64 a0_5, .int .i64 a0_6, .bool a0_7, .slice A0_8 l0_8.length c0_8, .int .i64 a0_9, .int .i64 a0_10, .int .i64 a0_11, .slice A0_12 l0_12.length c0_12, .int .i64 a0_13, .int .i64 a0_14, .int .i64 a0_15, .slice A0_16 l0_16.length c0_16]) (t := 34) ?hr ?_; (case hd => rfl); (case hg => rfl); (case hr => first | (go_simp; done) | (go_simp; rfl)); intro gb466 hg w94 hbox hb; have n0_ := Aside0.mk (below_step (by repeat (first | (with_reducible first | exact HB.out | apply below_alloc | apply pw_below_drewN | apply below_drew1) | exact HB.out)) hb); have n1_ := Aside0.mk (hbox); have n2_ := Aside0.mk ((by rw [hg]; exact (below_size (by repeat (first | (with_reducible first | exact HB.out | apply below_alloc | apply pw_below_drewN | apply below_drew1) | exact HB.out))) : w.heap.size ≤ gb466)); have n3_ := Aside0.mk ((by rw [hg]; exact (below_size (by repeat (first | (with_reducible first | exact HB.out | apply below_alloc | apply pw_below_drewN | apply below_drew1) | exact HB.out))) : w.heap.size ≤ gb466)); clear HB; have HB := n0_; have BK466 := n1_; have GW466 := n2_; have GE466 := n3_; clear n0_ n1_ n2_ n3_; clear hb hbox hg; have hcz95_0 : w94.cell? ⟨gb466, 0, none⟩ = some (.int .i64 a0_0) := (blk_cell BK466.out 0).trans rfl; have hcz95_1 : w94.cell? ⟨gb466, 1, none⟩ = some (.int .i64 a0_1) := (blk_cell BK466.out 1).trans rfl; have hcz95_2 : w94.cell? ⟨gb466, 2, none⟩ = some (.int .i64 a0_2) := (blk_cell BK466.out 2).trans rfl; have hcz95_3 : w94.cell? ⟨gb466, 3, none⟩ = some (.int .i64 a0_3) := (blk_cell BK466.out 3).trans rfl; have hcz95_4 : w94.cell? ⟨gb466, 4, none⟩ = some (.int .i64 a0_4) := (blk_cell BK466.out 4).trans rfl; have hcz95_5 : w94.cell? ⟨gb466, 5, none⟩ = some (.int .i64 a0_5) := (blk_cell BK466.out 5).trans rfl; have hcz95_6 : w94.cell? ⟨gb466, 6, none⟩ = some (.int .i64 a0_6) := (blk_cell BK466.out 6).trans rfl; have hcz95_7 : w94.cell? ⟨gb466, 7, none⟩ = some (.bool a0_7) := (blk_cell BK466.out 7).trans rfl; have hcz95_8 : w94.cell? ⟨gb466, 8, none⟩ = some (.slice A0_8 l0_8.length c0_8) := (blk_cell BK466.out 8).trans rfl; have hcz95_9 : w94.cell? ⟨gb466, 9, none⟩ = some (.int .i64 a0_9) := (blk_cell BK466.out 9).trans rfl; have hcz95_10 : w94.cell? ⟨gb466, 10, none⟩ = some (.int .i64 a0_10) := (blk_cell BK466.out 10).trans rfl; have hcz95_11 : w94.cell? ⟨gb466, 11, none⟩ = some (.int .i64 a0_11) := (blk_cell BK466.out 11).trans rfl; have hcz95_12 : w94.cell? ⟨gb466, 12, none⟩ = some (.slice A0_12 l0_12.length c0_12) := (blk_cell BK466.out 12).trans rfl; have hcz95_13 : w94.cell? ⟨gb466, 13, none⟩ = some (.int .i64 a0_13) := (blk_cell BK466.out 13).trans rfl; have hcz95_14 : w94.cell? ⟨gb466, 14, none⟩ = some (.int .i64 a0_14) := (blk_cell BK466.out 14).trans rfl; have hcz95_15 : w94.cell? ⟨gb466, 15, none⟩ = some (.int .i64 a0_15) := (blk_cell BK466.out 15).trans rfl; have hcz95_16 : w94.cell? ⟨gb466, 16, none⟩ = some (.slice A0_16 l0_16.length c0_16) := (blk_cell BK466.out 16).trans rfl; have hfz95_0 := blk_frozen BK466.out 0; have hfz95_1 := blk_frozen BK466.out 1; have hfz95_2 := blk_frozen BK466.out 2; have hfz95_3 := blk_frozen BK466.out 3; have hfz95_4 := blk_frozen BK466.out 4; have hfz95_5 := blk_frozen BK466.out 5; have hfz95_6 := blk_frozen BK466.out 6; have hfz95_7 := blk_frozen BK466.out 7; have hfz95_8 := blk_frozen BK466.out 8; have hfz95_9 := blk_frozen BK466.out 9; have hfz95_10 := blk_frozen BK466.out 10; have hfz95_11 := blk_frozen BK466.out 11; have hfz95_12 := blk_frozen BK466.out 12; have hfz95_13 := blk_frozen BK466.out 13; have hfz95_14 := blk_frozen BK466.out 14; have hfz95_15 := blk_frozen BK466.out 15; have hfz95_16 := blk_frozen BK466.out 16) | ((with_reducible refine gate_dst (N := 10) rfl ?_); refine Kd.R_lit (Kd.int .i64) _ 2 ?hg (N := 10) ?hd (xs := ([a0_0, a0_1, a0_2] : List Int)) (inner := [.int .i64 a0_0, .int .i64 a0_1, .int .i64 a0_2]) (ok := fun _ => True) (okp := fun _ => True) ?hr ?hp (fun _ hk => hk) trivial (Below.refl _ _) (Nat.le_refl _) (by simp) ?_; (case hd => rfl); (case hg => rfl); (case hr => first | (go_simp; done) | (go_simp; rfl)); (case hp => exact (Reps.one (show Kd.M (Kd.int .i64) _ _ _ a0_0 [.int .i64 a0_0] from rfl) (Reps.one (show Kd.M (Kd.int .i64) _ _ _ a0_1 [.int .i64 a0_1] from rfl) (Reps.one (show Kd.M (Kd.int .i64) _ _ _ a0_2 [.int .i64 a0_2] from rfl) (Reps.none _ _))))); intro v468 w96 ho97 hb hg_ hnew_; clear hg_ hnew_; (first | rw [← Ny467.out] at ho97 | (simp only [Int.reduceToNat] at ho97; rw [← Ny467.out] at ho97)); have n0_ := Aside0.mk (Kd.R_lower ho97 (below_size (by repeat (first | (with_reducible first | exact HB.out | apply below_alloc | apply pw_below_drewN | apply below_drew1 | refine below_set ?_ GE466.out) | exact HB.out)))); have n1_ := Aside0.mk (blk_below (g := gb466) (o := .cells #[.int .i64 a0_0, .int .i64 a0_1, .int .i64 a0_2, .int .i64 a0_3, .int .i64 a0_4, .int .i64 a0_5, .int .i64 a0_6, .bool a0_7, .slice A0_8 l0_8.length c0_8, .int .i64 a0_9, .int .i64 a0_10, .int .i64 a0_11, .slice A0_12 l0_12.length c0_12, .int .i64 a0_13, .int .i64 a0_14, .int .i64 a0_15, .slice A0_16 l0_16.length c0_16] 34 (0, 0)) (by (with_reducible repeat (first | refine blk_drewN ?_ _ | refine blk_drew ?_ | refine blk_alloc ?_ _)); exact BK466.out) hb); have n2_ := Aside0.mk (below_step (by repeat (first | (with_reducible first | exact HB.out | apply below_alloc | apply pw_below_drewN | apply below_drew1 | refine below_set ?_ GE466.out) | exact HB.out)) hb); clear BK466; clear HB; have HO469 := n0_; have BK466 := n1_; have HB := n2_; clear n0_ n1_ n2_; clear hb ho97; obtain ⟨Ao98, co98, eo98⟩ := Kd.R_slice HO469.out; subst eo98) | ((with_reducible refine gate_callee (f := 97) rfl ?_); refine goesL_ (some 11) rfl rfl Tryz.func97 (by kernel_rfl) rfl #[.slice none 0 0, .slice Ao98 y467.length co98] rfl (by (try simp only [List.map_toArray, List.map_cons, List.map_nil]); first | done | rfl | (simp only [List.length_drop, List.length_take]; rfl)) ?_; (refine (trivetref04_num.calls k _ _ ([] : List Int) _ _ y467 t470 _ ?side1 ?side2 ?side3 ?side4 A2.out).mono ?_); (case side1 => exact Kd.C_nil _ _); (case side2 => exact Nat.le_refl _); (case side3 => repeat (first | exact (Kd.R_reads' HO469.out).2.2 | (with_reducible refine Kd.C_alloc ?_ _) | (with_reducible refine Kd.C_drewN ?_ _) | (with_reducible refine Kd.C_drew ?_))); (case side4 => exact (Kd.R_reads' HO469.out).2.1); rintro e w99 ⟨v471, rfl, ho0, hb⟩; refine ⟨_, rfl, ?_⟩; have n0_ := Aside0.mk (Kd.R_below (by (with_reducible repeat (first|apply Kd.R_alloc | apply Kd.R_drewN | apply Kd.R_drew)); exact HO469.out) hb); have n1_ := Aside0.mk (Kd.R_lower ho0 (below_size (by repeat (first | (with_reducible first | exact HB.out | apply below_alloc | apply pw_below_drewN | apply below_drew1 | refine below_set ?_ GE466.out) | exact HB.out)))); have n2_ := Aside0.mk (blk_below (g := gb466) (o := .cells #[.int .i64 a0_0, .int .i64 a0_1, .int .i64 a0_2, .int .i64 a0_3, .int .i64 a0_4, .int .i64 a0_5, .int .i64 a0_6, .bool a0_7, .slice A0_8 l0_8.length c0_8, .int .i64 a0_9, .int .i64 a0_10, .int .i64 a0_11, .slice A0_12 l0_12.length c0_12, .int .i64 a0_13, .int .i64 a0_14, .int .i64 a0_15, .slice A0_16 l0_16.length c0_16] 34 (0, 0)) (by (with_reducible repeat (first | refine blk_drewN ?_ _ | refine blk_drew ?_ | refine blk_alloc ?_ _)); exact BK466.out) hb); have n3_ := Aside0.mk (below_step (by repeat (first | (with_reducible first | exact HB.out | apply below_alloc | apply pw_below_drewN | apply below_drew1 | refine below_set ?_ GE466.out) | exact HB.out)) hb); clear HO469; clear BK466; clear HB; have HO469 := n0_; have HO472 := n1_; have BK466 := n2_; have HB := n3_; clear n0_ n1_ n2_ n3_; (try clear hb); (try clear hb2); (try clear hk); (try clear hi); (try clear ho0); have hcz100_0 : w99.cell? ⟨gb466, 0, none⟩ = some (.int .i64 a0_0) := (blk_cell BK466.out 0).trans rfl; have hcz100_1 : w99.cell? ⟨gb466, 1, none⟩ = some (.int .i64 a0_1) := (blk_cell BK466.out 1).trans rfl; have hcz100_2 : w99.cell? ⟨gb466, 2, none⟩ = some (.int .i64 a0_2) := (blk_cell BK466.out 2).trans rfl; have hcz100_3 : w99.cell? ⟨gb466, 3, none⟩ = some (.int .i64 a0_3) := (blk_cell BK466.out 3).trans rfl; have hcz100_4 : w99.cell? ⟨gb466, 4, none⟩ = some (.int .i64 a0_4) := (blk_cell BK466.out 4).trans rfl; have hcz100_5 : w99.cell? ⟨gb466, 5, none⟩ = some (.int .i64 a0_5) := (blk_cell BK466.out 5).trans rfl; have hcz100_6 : w99.cell? ⟨gb466, 6, none⟩ = some (.int .i64 a0_6) := (blk_cell BK466.out 6).trans rfl; have hcz100_7 : w99.cell? ⟨gb466, 7, none⟩ = some (.bool a0_7) := (blk_cell BK466.out 7).trans rfl; have hcz100_8 : w99.cell? ⟨gb466, 8, none⟩ = some (.slice A0_8 l0_8.length c0_8) := (blk_cell BK466.out 8).trans rfl; have hcz100_9 : w99.cell? ⟨gb466, 9, none⟩ = some (.int .i64 a0_9) := (blk_cell BK466.out 9).trans rfl; have hcz100_10 : w99.cell? ⟨gb466, 10, none⟩ = some (.int .i64 a0_10) := (blk_cell BK466.out 10).trans rfl; have hcz100_11 : w99.cell? ⟨gb466, 11, none⟩ = some (.int .i64 a0_11) := (blk_cell BK466.out 11).trans rfl; have hcz100_12 : w99.cell? ⟨gb466, 12, none⟩ = some (.slice A0_12 l0_12.length c0_12) := (blk_cell BK466.out 12).trans rfl; have hcz100_13 : w99.cell? ⟨gb466, 13, none⟩ = some (.int .i64 a0_13) := (blk_cell BK466.out 13).trans rfl; have hcz100_14 : w99.cell? ⟨gb466, 14, none⟩ = some (.int .i64 a0_14) := (blk_cell BK466.out 14).trans rfl; have hcz100_15 : w99.cell? ⟨gb466, 15, none⟩ = some (.int .i64 a0_15) := (blk_cell BK466.out 15).trans rfl; have hcz100_16 : w99.cell? ⟨gb466, 16, none⟩ = some (.slice A0_16 l0_16.length c0_16) := (blk_cell BK466.out 16).trans rfl; have hfz100_0 := blk_frozen BK466.out 0; have hfz100_1 := blk_frozen BK466.out 1; have hfz100_2 := blk_frozen BK466.out 2; have hfz100_3 := blk_frozen BK466.out 3; have hfz100_4 := blk_frozen BK466.out 4; have hfz100_5 := blk_frozen BK466.out 5; have hfz100_6 := blk_frozen BK466.out 6; have hfz100_7 := blk_frozen BK466.out 7; have hfz100_8 := blk_frozen BK466.out 8; have hfz100_9 := blk_frozen BK466.out 9; have hfz100_10 := blk_frozen BK466.out 10; have hfz100_11 := blk_frozen BK466.out 11; have hfz100_12 := blk_frozen BK466.out 12; have hfz100_13 := blk_frozen BK466.out 13; have hfz100_14 := blk_frozen BK466.out 14; have hfz100_15 := blk_frozen BK466.out 15; have hfz100_16 := blk_frozen BK466.out 16))
              have n0_ := Aside0.mk (Kd.R_drew HO469.out)
              have n1_ := Aside0.mk (Kd.R_drew HO472.out)
              have n2_ := Aside0.mk (blk_drew BK466.out)
              have n3_ := Aside0.mk (below_drew1 HB.out)
              clear HO469
              clear HO472
              clear BK466
              clear HB
              have HO469 := n0_
              have HO472 := n1_
              have BK466 := n2_
              have HB := n3_
              clear n0_ n1_ n2_ n3_
              refine start_ (n := 14) (S := fun w' => w'.cell? ⟨gb466, 0, none⟩ = some (.int .i64 a0_0) ∧ w'.cell? ⟨gb466, 1, none⟩ = some (.int .i64 a0_1) ∧ w'.cell? ⟨gb466, 2, none⟩ = some (.int .i64 a0_2) ∧ w'.cell? ⟨gb466, 3, none⟩ = some (.int .i64 a0_3) ∧ w'.cell? ⟨gb466, 4, none⟩ = some (.int .i64 a0_4) ∧ w'.cell? ⟨gb466, 5, none⟩ = some (.int .i64 a0_5) ∧ w'.cell? ⟨gb466, 6, none⟩ = some (.int .i64 a0_6) ∧ w'.cell? ⟨gb466, 7, none⟩ = some (.bool a0_7) ∧ w'.cell? ⟨gb466, 8, none⟩ = some (.slice A0_8 l0_8.length c0_8) ∧ w'.cell? ⟨gb466, 9, none⟩ = some (.int .i64 a0_9) ∧ w'.cell? ⟨gb466, 10, none⟩ = some (.int .i64 a0_10) ∧ w'.cell? ⟨gb466, 11, none⟩ = some (.int .i64 a0_11) ∧ w'.cell? ⟨gb466, 12, none⟩ = some (.slice A0_12 l0_12.length c0_12) ∧ w'.cell? ⟨gb466, 13, none⟩ = some (.int .i64 a0_13) ∧ w'.cell? ⟨gb466, 14, none⟩ = some (.int .i64 a0_14) ∧ w'.cell? ⟨gb466, 15, none⟩ = some (.int .i64 a0_15) ∧ w'.cell? ⟨gb466, 16, none⟩ = some (.slice A0_16 l0_16.length c0_16)) (ds := []) #[false, false, false, false, false, false, false, false, false, false, false, false, false, false] (by kernel_rfl) rfl rfl ⟨(blk_cell BK466.out 0).trans rfl, (blk_cell BK466.out 1).trans rfl, (blk_cell BK466.out 2).trans rfl, (blk_cell BK466.out 3).trans rfl, (blk_cell BK466.out 4).trans rfl, (blk_cell BK466.out 5).trans rfl, (blk_cell BK466.out 6).trans rfl, (blk_cell BK466.out 7).trans rfl, (blk_cell BK466.out 8).trans rfl, (blk_cell BK466.out 9).trans rfl, (blk_cell BK466.out 10).trans rfl, (blk_cell BK466.out 11).trans rfl, (blk_cell BK466.out 12).trans rfl, (blk_cell BK466.out 13).trans rfl, (blk_cell BK466.out 14).trans rfl, (blk_cell BK466.out 15).trans rfl, (blk_cell BK466.out 16).trans rfl⟩ (fun hHeld => ?_); refine with_tabW trivetref04_MsgForm.tab13 trivetref04_MsgForm.bits13 (fun HT_ HW_ => ?_)
              generalize w99.drew = w101 at HO469 HO472 BK466 HB hHeld ⊢
              refine pure_ (i := 0) (N := some 72) (v := ?_) (a' := ?_) #[true, false, false, false, false, false, false, false, false, false, false, false, false, false] rfl rfl (any_of HT_.out (by kernel_rfl)) (fun _ _ _ h => h) (Or.inl ⟨by rfl, ?_⟩) ?_ ?_
              rotate_left
              · intro w'
                go_simp
                with_reducible rfl
              rotate_left
              · simp only [Act.put, List.setIfInBounds_toArray, List.set_cons_zero, List.set_cons_succ, i64_w, i32_w]
                rfl
              refine pure_ (i := 1) (N := some 73) (v := ?_) (a' := ?_) #[true, true, false, false, false, false, false, false, false, false, false, false, false, false] rfl rfl (any_of HT_.out (by kernel_rfl)) (fun _ _ _ h => h) (Or.inl ⟨by rfl, ?_⟩) ?_ ?_
              rotate_left
              · intro w'
                go_simp
                with_reducible rfl
              rotate_left
              · simp only [Act.put, List.setIfInBounds_toArray, List.set_cons_zero, List.set_cons_succ, i64_w, i32_w]
                rfl
              refine pure_ (i := 3) (N := some 75) (v := ?_) (a' := ?_) #[true, true, false, true, false, false, false, false, false, false, false, false, false, false] rfl rfl (any_of HT_.out (by kernel_rfl)) (fun _ _ _ h => h) (Or.inl ⟨by rfl, ?_⟩) ?_ ?_
              rotate_left
              · intro w'
                go_simp
                with_reducible rfl
              rotate_left
              · simp only [Act.put, List.setIfInBounds_toArray, List.set_cons_zero, List.set_cons_succ, i64_w, i32_w]
                rfl
              refine pure_ (i := 5) (N := some 77) (v := ?_) (a' := ?_) #[true, true, false, true, false, true, false, false, false, false, false, false, false, false] rfl rfl (any_of HT_.out (by kernel_rfl)) (fun _ _ _ h => h) (Or.inl ⟨by rfl, ?_⟩) ?_ ?_
              rotate_left
              · intro w'
                go_simp
                with_reducible rfl
              rotate_left
              · simp only [Act.put, List.setIfInBounds_toArray, List.set_cons_zero, List.set_cons_succ, i64_w, i32_w]
                rfl
              refine pure_ (i := 9) (N := some 81) (v := ?_) (a' := ?_) #[true, true, false, true, false, true, false, false, false, true, false, false, false, false] rfl rfl (any_of HT_.out (by kernel_rfl)) (fun _ _ _ h => h) (Or.inl ⟨by rfl, ?_⟩) ?_ ?_
              rotate_left
              · intro w'
                go_simp
                with_reducible rfl
              rotate_left
              · simp only [Act.put, List.setIfInBounds_toArray, List.set_cons_zero, List.set_cons_succ, i64_w, i32_w]
                rfl
              refine take_ (i := 2) (N := some 74) (v := ?_) (a' := ?_) #[true, true, true, true, false, true, false, false, false, true, false, false, false, false] rfl rfl (take_ofW HT_.out HW_.out (by kernel_rfl)) (fun _ _ _ h => h) (Or.inl ⟨by rfl, ?_⟩) hHeld ?_ ?_
              rotate_left
              · rintro w' ⟨s0, s1, s2, s3, s4, s5, s6, s7, s8, s9, s10, s11, s12, s13, s14, s15, s16⟩
                go_simp
                with_reducible rfl
              rotate_left
              · simp only [Act.put, List.setIfInBounds_toArray, List.set_cons_zero, List.set_cons_succ, i64_w, i32_w]
                rfl
              refine take_ (i := 4) (N := some 76) (v := ?_) (a' := ?_) #[true, true, true, true, true, true, false, false, false, true, false, false, false, false] rfl rfl (take_ofW HT_.out HW_.out (by kernel_rfl)) (fun _ _ _ h => h) (Or.inl ⟨by rfl, ?_⟩) hHeld ?_ ?_
              rotate_left
              · rintro w' ⟨s0, s1, s2, s3, s4, s5, s6, s7, s8, s9, s10, s11, s12, s13, s14, s15, s16⟩
                go_simp
                with_reducible rfl
              rotate_left
              · simp only [Act.put, List.setIfInBounds_toArray, List.set_cons_zero, List.set_cons_succ, i64_w, i32_w]
                rfl
              refine take_ (i := 6) (N := some 78) (v := ?_) (a' := ?_) #[true, true, true, true, true, true, true, false, false, true, false, false, false, false] rfl rfl (take_ofW HT_.out HW_.out (by kernel_rfl)) (fun _ _ _ h => h) (Or.inl ⟨by rfl, ?_⟩) hHeld ?_ ?_
              rotate_left
              · rintro w' ⟨s0, s1, s2, s3, s4, s5, s6, s7, s8, s9, s10, s11, s12, s13, s14, s15, s16⟩
                go_simp
                with_reducible rfl
              rotate_left
              · simp only [Act.put, List.setIfInBounds_toArray, List.set_cons_zero, List.set_cons_succ, i64_w, i32_w]
                rfl
              refine take_ (i := 10) (N := some 82) (v := ?_) (a' := ?_) #[true, true, true, true, true, true, true, false, false, true, true, false, false, false] rfl rfl (take_ofW HT_.out HW_.out (by kernel_rfl)) (fun _ _ _ h => h) (Or.inl ⟨by rfl, ?_⟩) hHeld ?_ ?_
              rotate_left
              · rintro w' ⟨s0, s1, s2, s3, s4, s5, s6, s7, s8, s9, s10, s11, s12, s13, s14, s15, s16⟩
                go_simp
                with_reducible rfl
              rotate_left
              · simp only [Act.put, List.setIfInBounds_toArray, List.set_cons_zero, List.set_cons_succ, i64_w, i32_w]
                rfl
              refine one_ (i := 7) (N := some 79) #[true, true, true, true, true, true, true, true, false, true, true, false, false, false] rfl rfl (one_of HT_.out (by kernel_rfl)) (by decide) (fun K hK => ?_)
              refine Kd.R_lit_step (Kd.int .i64) _ 2 ?hg (N := 79) ?hd (xs := ([a0_3, a0_4, a0_5] : List Int)) (inner := [.int .i64 a0_3, .int .i64 a0_4, .int .i64 a0_5]) (ok := fun _ => True) (okp := fun _ => True) ?hr ?hp (fun _ hk => hk) trivial (Below.refl _ _) (Nat.le_refl _) (by simp) ?_; (case hd => rfl); (case hg => rfl); (case hr => first | (go_simp; done) | (go_simp; rfl)); (case hp => exact (Reps.one (show Kd.M (Kd.int .i64) _ _ _ a0_3 [.int .i64 a0_3] from rfl) (Reps.one (show Kd.M (Kd.int .i64) _ _ _ a0_4 [.int .i64 a0_4] from rfl) (Reps.one (show Kd.M (Kd.int .i64) _ _ _ a0_5 [.int .i64 a0_5] from rfl) (Reps.none _ _)))))
              intro v519 w102 ho103 hb hg_ hnew_
              clear hg_ hnew_
              (first | rw [← Ny518.out] at ho103 | (simp only [Int.reduceToNat] at ho103; rw [← Ny518.out] at ho103))
              have n0_ := Aside0.mk (Kd.R_elder' (by (with_reducible repeat (first|apply Kd.R_alloc | apply Kd.R_drewN | apply Kd.R_drew)); exact HO469.out) (Kd.R_base ho103) hb)
              have n1_ := Aside0.mk (Kd.R_below (by (with_reducible repeat (first|apply Kd.R_alloc | apply Kd.R_drewN | apply Kd.R_drew)); exact HO472.out) hb)
              have n2_ := Aside0.mk (Kd.R_lower (Kd.R_new' ho103 (Kd.R_lt (by (with_reducible repeat (first|apply Kd.R_alloc | apply Kd.R_drewN | apply Kd.R_drew)); exact HO469.out))) (below_size (by repeat (first | (with_reducible first | exact HB.out | apply below_alloc | apply pw_below_drewN | apply below_drew1 | refine below_set ?_ GE466.out) | exact HB.out))))
              have n3_ := Aside0.mk (blk_below (g := gb466) (o := .cells #[.int .i64 a0_0, .int .i64 a0_1, .int .i64 a0_2, .int .i64 a0_3, .int .i64 a0_4, .int .i64 a0_5, .int .i64 a0_6, .bool a0_7, .slice A0_8 l0_8.length c0_8, .int .i64 a0_9, .int .i64 a0_10, .int .i64 a0_11, .slice A0_12 l0_12.length c0_12, .int .i64 a0_13, .int .i64 a0_14, .int .i64 a0_15, .slice A0_16 l0_16.length c0_16] 34 (0, 0)) (by (with_reducible repeat (first | refine blk_drewN ?_ _ | refine blk_drew ?_ | refine blk_alloc ?_ _)); exact BK466.out) hb)
              have n4_ := Aside0.mk (below_step (by repeat (first | (with_reducible first | exact HB.out | apply below_alloc | apply pw_below_drewN | apply below_drew1 | refine below_set ?_ GE466.out) | exact HB.out)) hb)
              clear HO469
              clear HO472
              clear BK466
              clear HB
              have HO469 := n0_
              have HO472 := n1_
              have HO520 := n2_
              have BK466 := n3_
              have HB := n4_
              clear n0_ n1_ n2_ n3_ n4_
              clear hb ho103
              obtain ⟨Ao104, co104, eo104⟩ := Kd.R_slice HO472.out
              (first | subst eo104 | (injection eo104 with f1_ f2_ f3_; have f4_ := f1_.symm; have f5_ := f3_.symm; clear f1_ f2_ f3_; subst f4_; subst f5_))
              obtain ⟨Ao105, co105, eo105⟩ := Kd.R_slice HO520.out
              (first | subst eo105 | (injection eo105 with f1_ f2_ f3_; have f4_ := f1_.symm; have f5_ := f3_.symm; clear f1_ f2_ f3_; subst f4_; subst f5_))
              refine hK.out _ _ ⟨(blk_cell BK466.out 0).trans rfl, (blk_cell BK466.out 1).trans rfl, (blk_cell BK466.out 2).trans rfl, (blk_cell BK466.out 3).trans rfl, (blk_cell BK466.out 4).trans rfl, (blk_cell BK466.out 5).trans rfl, (blk_cell BK466.out 6).trans rfl, (blk_cell BK466.out 7).trans rfl, (blk_cell BK466.out 8).trans rfl, (blk_cell BK466.out 9).trans rfl, (blk_cell BK466.out 10).trans rfl, (blk_cell BK466.out 11).trans rfl, (blk_cell BK466.out 12).trans rfl, (blk_cell BK466.out 13).trans rfl, (blk_cell BK466.out 14).trans rfl, (blk_cell BK466.out 15).trans rfl, (blk_cell BK466.out 16).trans rfl⟩ (fun hHeld => ?_)
              clear hK K
              refine norm_ (a' := ?_) ?_ ?_
              rotate_left
              · show Act.put _ (some 79) _ = _
                simp only [Act.put, List.setIfInBounds_toArray, List.set_cons_zero, List.set_cons_succ, i64_w, i32_w]
                rfl
              refine one_ (i := 8) (N := some 80) #[true, true, true, true, true, true, true, true, true, true, true, false, false, false] rfl rfl (one_of HT_.out (by kernel_rfl)) (by decide) (fun K hK => ?_)
              refine goes_ Tryz.func97 (by kernel_rfl) rfl #[.slice Ao104 t470.length co104, .slice Ao105 y518.length co105] (by rfl) rfl rfl (by (try simp only [List.map_toArray, List.map_cons, List.map_nil]); first | done | rfl | (simp only [List.length_drop, List.length_take]; rfl)) ?_
              with_reducible refine (trivetref04_num.calls k _ _ t470 _ _ y518 t521 _ ?side1 ?side2 ?side3 ?side4 A91.out).mono ?_
              (case side1 => repeat (first | exact (Kd.R_reads' HO472.out).2.2 | (with_reducible refine Kd.C_alloc ?_ _) | (with_reducible refine Kd.C_drewN ?_ _) | (with_reducible refine Kd.C_drew ?_)))
              (case side2 => exact (Kd.R_reads' HO472.out).2.1)
              (case side3 => repeat (first | exact (Kd.R_reads' HO520.out).2.2 | (with_reducible refine Kd.C_alloc ?_ _) | (with_reducible refine Kd.C_drewN ?_ _) | (with_reducible refine Kd.C_drew ?_)))
              (case side4 => exact (Kd.R_reads' HO520.out).2.1)
              rintro e w106 ⟨v522, rfl, ho0, hb⟩
              refine ⟨_, rfl, ?_⟩
              have n0_ := Aside0.mk (Kd.R_below (by (with_reducible repeat (first|apply Kd.R_alloc | apply Kd.R_drewN | apply Kd.R_drew)); exact HO469.out) hb)
              have n1_ := Aside0.mk (Kd.R_elder' (by (with_reducible repeat (first|apply Kd.R_alloc | apply Kd.R_drewN | apply Kd.R_drew)); exact HO472.out) (Kd.R_base ho0) hb)
              have n2_ := Aside0.mk (Kd.R_below (by (with_reducible repeat (first|apply Kd.R_alloc | apply Kd.R_drewN | apply Kd.R_drew)); exact HO520.out) hb)
              have n3_ := Aside0.mk (Kd.R_lower (Kd.R_new' ho0 (Kd.R_lt (by (with_reducible repeat (first|apply Kd.R_alloc | apply Kd.R_drewN | apply Kd.R_drew)); exact HO472.out))) (below_size (by repeat (first | (with_reducible first | exact HB.out | apply below_alloc | apply pw_below_drewN | apply below_drew1 | refine below_set ?_ GE466.out) | exact HB.out))))
              have n4_ := Aside0.mk (blk_below (g := gb466) (o := .cells #[.int .i64 a0_0, .int .i64 a0_1, .int .i64 a0_2, .int .i64 a0_3, .int .i64 a0_4, .int .i64 a0_5, .int .i64 a0_6, .bool a0_7, .slice A0_8 l0_8.length c0_8, .int .i64 a0_9, .int .i64 a0_10, .int .i64 a0_11, .slice A0_12 l0_12.length c0_12, .int .i64 a0_13, .int .i64 a0_14, .int .i64 a0_15, .slice A0_16 l0_16.length c0_16] 34 (0, 0)) (by (with_reducible repeat (first | refine blk_drewN ?_ _ | refine blk_drew ?_ | refine blk_alloc ?_ _)); exact BK466.out) hb)
              have n5_ := Aside0.mk (below_step (by repeat (first | (with_reducible first | exact HB.out | apply below_alloc | apply pw_below_drewN | apply below_drew1 | refine below_set ?_ GE466.out) | exact HB.out)) hb)
              clear HO469
              clear HO472
              clear HO520
              clear BK466
              clear HB
              have HO469 := n0_
              have HO472 := n1_
              have HO520 := n2_
              have HO523 := n3_
              have BK466 := n4_
              have HB := n5_
              clear n0_ n1_ n2_ n3_ n4_ n5_
              (try clear hb)
              (try clear hb2)
              (try clear hk)
              (try clear hi)
              (try clear ho0)
              refine hK.out _ _ ⟨(blk_cell BK466.out 0).trans rfl, (blk_cell BK466.out 1).trans rfl, (blk_cell BK466.out 2).trans rfl, (blk_cell BK466.out 3).trans rfl, (blk_cell BK466.out 4).trans rfl, (blk_cell BK466.out 5).trans rfl, (blk_cell BK466.out 6).trans rfl, (blk_cell BK466.out 7).trans rfl, (blk_cell BK466.out 8).trans rfl, (blk_cell BK466.out 9).trans rfl, (blk_cell BK466.out 10).trans rfl, (blk_cell BK466.out 11).trans rfl, (blk_cell BK466.out 12).trans rfl, (blk_cell BK466.out 13).trans rfl, (blk_cell BK466.out 14).trans rfl, (blk_cell BK466.out 15).trans rfl, (blk_cell BK466.out 16).trans rfl⟩ (fun hHeld => ?_)
              clear hK K
              refine norm_ (a' := ?_) ?_ ?_
              rotate_left
              · show Act.put _ (some 80) _ = _
                simp only [Act.put, List.setIfInBounds_toArray, List.set_cons_zero, List.set_cons_succ, i64_w, i32_w]
                rfl
              refine one_ (i := 11) (N := some 83) #[true, true, true, true, true, true, true, true, true, true, true, true, false, false] rfl rfl (one_of HT_.out (by kernel_rfl)) (by decide) (fun K hK => ?_)
              refine goes_ Tryz.func106 (by kernel_rfl) rfl #[.agg #[.int .i64 a0_13, .int .i64 a0_14, .int .i64 a0_15, .slice A0_16 l0_16.length c0_16]] (by rfl) rfl rfl (by (try simp only [List.map_toArray, List.map_cons, List.map_nil]); first | done | rfl | (simp only [List.length_drop, List.length_take]; rfl)) ?_
              with_reducible refine (trivetref04_PartForm.calls k a0_13 a0_14 a0_15 _ _ l0_16 t524 _ ?side1 ?side2 A92.out).mono ?_
              (case side1 => repeat (first | exact (Kd.C_below HR0_16.out HB.out) | (with_reducible refine Kd.C_alloc ?_ _) | (with_reducible refine Kd.C_drewN ?_ _) | (with_reducible refine Kd.C_drew ?_)))
              (case side2 => exact HC0_16.out)
              rintro e w107 ⟨v525, rfl, ho0, hb⟩
              refine ⟨_, rfl, ?_⟩
              have n0_ := Aside0.mk (Kd.R_below (by (with_reducible repeat (first|apply Kd.R_alloc | apply Kd.R_drewN | apply Kd.R_drew)); exact HO469.out) hb)
              have n1_ := Aside0.mk (Kd.R_elder' (by (with_reducible repeat (first|apply Kd.R_alloc | apply Kd.R_drewN | apply Kd.R_drew)); exact HO472.out) (Kd.R_base ho0) hb)
              have n2_ := Aside0.mk (Kd.R_below (by (with_reducible repeat (first|apply Kd.R_alloc | apply Kd.R_drewN | apply Kd.R_drew)); exact HO520.out) hb)
              have n3_ := Aside0.mk (Kd.R_elder' (by (with_reducible repeat (first|apply Kd.R_alloc | apply Kd.R_drewN | apply Kd.R_drew)); exact HO523.out) (Kd.R_base ho0) hb)
              have n4_ := Aside0.mk (Kd.R_lower (Kd.R_new' (Kd.R_new' ho0 (Kd.R_lt (by (with_reducible repeat (first|apply Kd.R_alloc | apply Kd.R_drewN | apply Kd.R_drew)); exact HO472.out))) (Kd.R_lt (by (with_reducible repeat (first|apply Kd.R_alloc | apply Kd.R_drewN | apply Kd.R_drew)); exact HO523.out))) (below_size (by repeat (first | (with_reducible first | exact HB.out | apply below_alloc | apply pw_below_drewN | apply below_drew1 | refine below_set ?_ GE466.out) | exact HB.out))))
              have n5_ := Aside0.mk (blk_below (g := gb466) (o := .cells #[.int .i64 a0_0, .int .i64 a0_1, .int .i64 a0_2, .int .i64 a0_3, .int .i64 a0_4, .int .i64 a0_5, .int .i64 a0_6, .bool a0_7, .slice A0_8 l0_8.length c0_8, .int .i64 a0_9, .int .i64 a0_10, .int .i64 a0_11, .slice A0_12 l0_12.length c0_12, .int .i64 a0_13, .int .i64 a0_14, .int .i64 a0_15, .slice A0_16 l0_16.length c0_16] 34 (0, 0)) (by (with_reducible repeat (first | refine blk_drewN ?_ _ | refine blk_drew ?_ | refine blk_alloc ?_ _)); exact BK466.out) hb)
              have n6_ := Aside0.mk (below_step (by repeat (first | (with_reducible first | exact HB.out | apply below_alloc | apply pw_below_drewN | apply below_drew1 | refine below_set ?_ GE466.out) | exact HB.out)) hb)
              clear HO469
              clear HO472
              clear HO520
              clear HO523
              clear BK466
              clear HB
              have HO469 := n0_
              have HO472 := n1_
              have HO520 := n2_
              have HO523 := n3_
              have HO526 := n4_
              have BK466 := n5_
              have HB := n6_
              clear n0_ n1_ n2_ n3_ n4_ n5_ n6_
              (try clear hb)
              (try clear hb2)
              (try clear hk)
              (try clear hi)
              (try clear ho0)
              obtain ⟨Ao109, co109, eo109⟩ := Kd.R_slice HO526.out
              (first | subst eo109 | (injection eo109 with f1_ f2_ f3_; have f4_ := f1_.symm; have f5_ := f3_.symm; clear f1_ f2_ f3_; subst f4_; subst f5_))
              refine hK.out _ _ ⟨(blk_cell BK466.out 0).trans rfl, (blk_cell BK466.out 1).trans rfl, (blk_cell BK466.out 2).trans rfl, (blk_cell BK466.out 3).trans rfl, (blk_cell BK466.out 4).trans rfl, (blk_cell BK466.out 5).trans rfl, (blk_cell BK466.out 6).trans rfl, (blk_cell BK466.out 7).trans rfl, (blk_cell BK466.out 8).trans rfl, (blk_cell BK466.out 9).trans rfl, (blk_cell BK466.out 10).trans rfl, (blk_cell BK466.out 11).trans rfl, (blk_cell BK466.out 12).trans rfl, (blk_cell BK466.out 13).trans rfl, (blk_cell BK466.out 14).trans rfl, (blk_cell BK466.out 15).trans rfl, (blk_cell BK466.out 16).trans rfl⟩ (fun hHeld => ?_)
              clear hK K
              refine norm_ (a' := ?_) ?_ ?_
              rotate_left
              · show Act.put _ (some 83) _ = _
                simp only [Act.put, List.setIfInBounds_toArray, List.set_cons_zero, List.set_cons_succ, i64_w, i32_w]
                rfl
              refine one_ (i := 12) (N := some 84) #[true, true, true, true, true, true, true, true, true, true, true, true, true, false] rfl rfl (one_of HT_.out (by kernel_rfl)) (by decide) (fun K hK => ?_)
              refine Kd.R_append_rows_step (Kd.int .u8) (w0 := w) w.heap.size (by rfl) (.tmp 80) (.tmp 83) 23 5 (.int .u8 0) 1 rfl Tryz.underlying23 info5 rfl (by decide) (by omega) v522 t521 t524 _ _ _ (fun k_ => some k_ ≠ (.slice Ao104 t470.length co104 : Value).ownBlock ∧ some k_ ≠ (.slice Ao109 t524.length co109 : Value).ownBlock) (fun _ => False) rfl rfl ?aO ?aR (fun _ _ h => h) (fun _ h => h.elim) ?aF ?aB ?aS ?aL ?_
              (case aR => repeat (first | exact (Kd.R_reads' HO526.out).2.2 | (with_reducible refine Kd.C_alloc ?_ _) | (with_reducible refine Kd.C_drewN ?_ _) | (with_reducible refine Kd.C_drew ?_)))
              (case aB => exact (by repeat (first | (with_reducible first | exact HB.out | apply below_alloc | apply pw_below_drewN | apply below_drew1 | refine below_set ?_ GE466.out) | exact HB.out)))
              (case aF => exact (fun k_ hk => ⟨Kd.fresh' (Kd.R_lt (by (with_reducible repeat (first|apply Kd.R_alloc | apply Kd.R_drewN | apply Kd.R_drew)); exact HO472.out)) k_ hk, Kd.fresh' (Kd.R_lt (by (with_reducible repeat (first|apply Kd.R_alloc | apply Kd.R_drewN | apply Kd.R_drew)); exact HO526.out)) k_ hk⟩))
              (case aO => exact (by (with_reducible repeat (first|apply Kd.R_alloc | apply Kd.R_drewN | apply Kd.R_drew)); exact Kd.R_mono HO523.out (fun _ hk => ⟨hk.1.2, hk.2⟩)))
              (case aS => exact (below_size (by repeat (first | (with_reducible first | exact HB.out | apply below_alloc | apply pw_below_drewN | apply below_drew1 | refine below_set ?_ GE466.out) | exact HB.out))))
              (case aL => have := LMc93.out; omega)
              intro v528 w108 ho hb hg hat
              rw [← Ny527.out] at ho
              have n0_ := Aside0.mk (blk_grown (g := gb466) (o := .cells #[.int .i64 a0_0, .int .i64 a0_1, .int .i64 a0_2, .int .i64 a0_3, .int .i64 a0_4, .int .i64 a0_5, .int .i64 a0_6, .bool a0_7, .slice A0_8 l0_8.length c0_8, .int .i64 a0_9, .int .i64 a0_10, .int .i64 a0_11, .slice A0_12 l0_12.length c0_12, .int .i64 a0_13, .int .i64 a0_14, .int .i64 a0_15, .slice A0_16 l0_16.length c0_16] 34 (0, 0)) (by (with_reducible repeat (first | refine blk_drewN ?_ _ | refine blk_drew ?_ | refine blk_alloc ?_ _)); exact BK466.out) hg (Kd.R_ne HO523.out BK466.out (by decide)))
              have n1_ := Aside0.mk (Kd.R_over' (by (with_reducible repeat (first|apply Kd.R_alloc | apply Kd.R_drewN | apply Kd.R_drew)); exact HO469.out) (Kd.R_typed (by (with_reducible repeat (first|apply Kd.R_alloc | apply Kd.R_drewN | apply Kd.R_drew)); exact HO523.out)) (by decide) hg)
              have n2_ := Aside0.mk (Kd.R_after (ok := (fun k_ => some k_ ≠ (.slice Ao109 t524.length co109 : Value).ownBlock)) (by (with_reducible repeat (first|apply Kd.R_alloc | apply Kd.R_drewN | apply Kd.R_drew)); exact Kd.R_mono HO472.out (fun _ hk => ⟨hk.2, hk.1.2⟩)) hg hat)
              have n3_ := Aside0.mk (Kd.R_over' (by (with_reducible repeat (first|apply Kd.R_alloc | apply Kd.R_drewN | apply Kd.R_drew)); exact HO520.out) (Kd.R_typed (by (with_reducible repeat (first|apply Kd.R_alloc | apply Kd.R_drewN | apply Kd.R_drew)); exact HO523.out)) (by decide) hg)
              have n4_ := Aside0.mk (Kd.R_after (ok := (fun k_ => some k_ ≠ (.slice Ao104 t470.length co104 : Value).ownBlock)) (by (with_reducible repeat (first|apply Kd.R_alloc | apply Kd.R_drewN | apply Kd.R_drew)); exact Kd.R_mono HO526.out (fun _ hk => ⟨hk.1.2, hk.2⟩)) hg hat)
              have n5_ := Aside0.mk (hb)
              have n6_ := Aside0.mk (ho)
              clear BK466
              clear HO469
              clear HO472
              clear HO520
              clear HO526
              clear HB
              clear HO523
              have BK466 := n0_
              have HO469 := n1_
              have HO472 := n2_
              have HO520 := n3_
              have HO526 := n4_
              have HB := n5_
              have HO529 := n6_
              clear n0_ n1_ n2_ n3_ n4_ n5_ n6_
              clear ho hb hg hat
              refine hK.out _ _ ⟨(blk_cell BK466.out 0).trans rfl, (blk_cell BK466.out 1).trans rfl, (blk_cell BK466.out 2).trans rfl, (blk_cell BK466.out 3).trans rfl, (blk_cell BK466.out 4).trans rfl, (blk_cell BK466.out 5).trans rfl, (blk_cell BK466.out 6).trans rfl, (blk_cell BK466.out 7).trans rfl, (blk_cell BK466.out 8).trans rfl, (blk_cell BK466.out 9).trans rfl, (blk_cell BK466.out 10).trans rfl, (blk_cell BK466.out 11).trans rfl, (blk_cell BK466.out 12).trans rfl, (blk_cell BK466.out 13).trans rfl, (blk_cell BK466.out 14).trans rfl, (blk_cell BK466.out 15).trans rfl, (blk_cell BK466.out 16).trans rfl⟩ (fun hHeld => ?_)
              clear hK K
              refine norm_ (a' := ?_) ?_ ?_
              rotate_left
              · show Act.put _ (some 84) _ = _
                simp only [Act.put, List.setIfInBounds_toArray, List.set_cons_zero, List.set_cons_succ, i64_w, i32_w]
                rfl
              refine pure_ (i := 13) (N := some 2) (v := ?_) (a' := ?_) #[true, true, true, true, true, true, true, true, true, true, true, true, true, true] rfl rfl (any_of HT_.out (by kernel_rfl)) (fun _ _ _ h => h) (Or.inl ⟨by rfl, ?_⟩) ?_ ?_
              rotate_left
              · intro w'
                go_simp
                with_reducible rfl
              rotate_left
              · simp only [Act.put, List.setIfInBounds_toArray, List.set_cons_zero, List.set_cons_succ, i64_w, i32_w]
                rfl
              refine done_ (done_of HT_.out (by kernel_rfl)) ?_
              try go_wp2
              go_ret
              exact ⟨_, by first | rfl | (simp [errW_none, errW_some] <;> rfl) | (simp [*, errW_none, errW_some] <;> rfl), by (with_reducible repeat (first|apply Kd.R_alloc | apply Kd.R_drewN | apply Kd.R_drew)); exact Kd.R_mono HO529.out (fun _ hk => trivial), by repeat (first | (with_reducible first | exact HB.out | apply below_alloc | apply pw_below_drewN | apply below_drew1 | refine below_set ?_ GE466.out) | exact HB.out)⟩
            · rw [if_neg c93] at H
              exact absurd H (by simp)
end Go.Proofs.YtgiefblcckikeaaGreat.G
end
