/- RecordFullSaid: contracts of the functions that the law goes through, put together in build order (part 5 of 7). -/
import Derived.Test.YtgiefblcckikeaaPart3
import Derived.Lib.Bytes
import Derived.Test.YtgiefblcckikeaaWN
section
-- Written by a program of this session's (wip/gprint.py over the kit's printer).
namespace Go.Proofs.Ytgiefblcckikeaa.G
open Go.RowKit Go.Proofs.YtgiefblcckikeaaW.PrintWords Go.Proofs.YtgiefblcckikeaaW.PrintLast Go.Proofs.YtgiefblcckikeaaW.PrintMore
attribute [local go_sem] max2_int min2_int max_two min_two max_three min_three max_four min_four   -- for this text's walks alone
set_option linter.unusedVariables false
set_option linter.unusedSimpArgs false

/-! ### trivetref04_MayTxn: function 21 -/
def trivetref04_MayTxn.f (k : Nat) (a0_0 : Int) (a0_1 : Int) (l0_2 : List Int) (l0_3 : List Int) (l0_4 : List (S93)) (l0_5 : List (S93)) : Option (Bool) := (trivetref04_count.f a0_0).bind fun t177 => (if t177 = true then (if a0_0 > 0 then ((trivetref04_count.f a0_1).bind fun t178 => (if t178 = true then (if a0_1 > 0 then (if (l0_2.length : Int) ≤ 512 then (if (l0_3.length : Int) ≤ 8 then ((trivetref04_MayKeys.f k l0_4).bind fun t179 => (if t179 = true then ((trivetref04_MayKeys.f k l0_5).bind fun t180 => (some t180)) else (some false))) else (some false)) else (some false)) else (some false)) else (some false))) else (some false)) else (some false))
theorem trivetref04_MayTxn.mono : ∀ a0 a1 a2 a3 a4 a5 k, LeO (trivetref04_MayTxn.f k a0 a1 a2 a3 a4 a5) (trivetref04_MayTxn.f (k + 1) a0 a1 a2 a3 a4 a5) := by
  intro a0 a1 a2 a3 a4 a5 k
  unfold trivetref04_MayTxn.f
  repeat' first
      | (with_reducible exact trivetref04_MayKeys.mono _ _)
      | (with_reducible exact LeO.refl _)
      | (with_reducible exact LeO.none _)
      | (with_reducible refine LeO.ite ?_ ?_)
      | (with_reducible refine LeO.bind ?_ (fun _ => ?_))
      | exact trivetref04_MayKeys.mono _ _
      | exact LeO.none _
      | refine LeO.ite ?_ ?_
      | refine LeO.bind ?_ (fun _ => ?_)
set_option maxHeartbeats 8000000 in
set_option maxRecDepth 100000 in
theorem trivetref04_MayTxn.calls (k : Nat) (a0_0 : Int) (a0_1 : Int) (A0_2 : Option Addr) (c0_2 : Nat) (l0_2 : List Int) (A0_3 : Option Addr) (c0_3 : Nat) (l0_3 : List Int) (A0_4 : Option Addr) (c0_4 : Nat) (l0_4 : List (S93)) (A0_5 : Option Addr) (c0_5 : Nat) (l0_5 : List (S93)) (r : Bool) (w : World) (hr0_2 : Kd.C (Kd.int .u8) w A0_2 l0_2.length l0_2) (hc0_2 : l0_2.length ≤ c0_2) (hr0_3 : Kd.C (Kd.int .i64) w A0_3 l0_3.length l0_3) (hc0_3 : l0_3.length ≤ c0_3) (hr0_4 : Kd.C k93 w A0_4 l0_4.length l0_4) (hc0_4 : l0_4.length ≤ c0_4) (hr0_5 : Kd.C k93 w A0_5 l0_5.length l0_5) (hc0_5 : l0_5.length ≤ c0_5) (h : trivetref04_MayTxn.f k a0_0 a0_1 l0_2 l0_3 l0_4 l0_5 = some r) :
    Calls Try.prog 21 #[.agg #[.int .i64 a0_0, .int .i64 a0_1, .slice A0_2 l0_2.length c0_2, .slice A0_3 l0_3.length c0_3, .slice A0_4 l0_4.length c0_4, .slice A0_5 l0_5.length c0_5]] w fun e w' => e = .returned (.bool r) ∧ Below w.heap.size w w' := by
  have hu36 := Try.underlying36
  have HR0_2 := Aside0.mk hr0_2
  have HC0_2 := Aside0.mk hc0_2
  clear hr0_2 hc0_2
  have HR0_3 := Aside0.mk hr0_3
  have HC0_3 := Aside0.mk hc0_3
  clear hr0_3 hc0_3
  have HR0_4 := Aside0.mk hr0_4
  have HC0_4 := Aside0.mk hc0_4
  clear hr0_4 hc0_4
  have HR0_5 := Aside0.mk hr0_5
  have HC0_5 := Aside0.mk hc0_5
  clear hr0_5 hc0_5
  have HB := Aside0.mk (Below.refl w.heap.size w)
  have H : ((trivetref04_count.f a0_0).bind fun t177 => (if t177 = true then (if a0_0 > 0 then ((trivetref04_count.f a0_1).bind fun t178 => (if t178 = true then (if a0_1 > 0 then (if (l0_2.length : Int) ≤ 512 then (if (l0_3.length : Int) ≤ 8 then ((trivetref04_MayKeys.f k l0_4).bind fun t179 => (if t179 = true then ((trivetref04_MayKeys.f k l0_5).bind fun t180 => (some t180)) else (some false))) else (some false)) else (some false)) else (some false)) else (some false))) else (some false)) else (some false))) = some r := h
  clear h
  replace H := Option.bind_eq_some_iff.mp H
  obtain ⟨t177, A20, H⟩ := H
  replace H : (if t177 = true then (if a0_0 > 0 then ((trivetref04_count.f a0_1).bind fun t178 => (if t178 = true then (if a0_1 > 0 then (if (l0_2.length : Int) ≤ 512 then (if (l0_3.length : Int) ≤ 8 then ((trivetref04_MayKeys.f k l0_4).bind fun t179 => (if t179 = true then ((trivetref04_MayKeys.f k l0_5).bind fun t180 => (some t180)) else (some false))) else (some false)) else (some false)) else (some false)) else (some false))) else (some false)) else (some false)) = some r := H
  have A2 := Aside0.mk A20
  clear A20
  by_cases c3 : t177 = true
  · subst c3
    have H1 : (if a0_0 > 0 then ((trivetref04_count.f a0_1).bind fun t178 => (if t178 = true then (if a0_1 > 0 then (if (l0_2.length : Int) ≤ 512 then (if (l0_3.length : Int) ≤ 8 then ((trivetref04_MayKeys.f k l0_4).bind fun t179 => (if t179 = true then ((trivetref04_MayKeys.f k l0_5).bind fun t180 => (some t180)) else (some false))) else (some false)) else (some false)) else (some false)) else (some false))) else (some false)) = some r := by rw [if_pos rfl] at H; exact H
    clear H
    have H := H1
    clear H1
    by_cases c4 : a0_0 > 0
    · rw [if_pos c4] at H
      have c4b0 : decide (0 < a0_0) = true := decide_eq_true c4
      clear c4
      replace H := Option.bind_eq_some_iff.mp H
      obtain ⟨t178, A50, H⟩ := H
      replace H : (if t178 = true then (if a0_1 > 0 then (if (l0_2.length : Int) ≤ 512 then (if (l0_3.length : Int) ≤ 8 then ((trivetref04_MayKeys.f k l0_4).bind fun t179 => (if t179 = true then ((trivetref04_MayKeys.f k l0_5).bind fun t180 => (some t180)) else (some false))) else (some false)) else (some false)) else (some false)) else (some false)) = some r := H
      have A5 := Aside0.mk A50
      clear A50
      by_cases c6 : t178 = true
      · subst c6
        have H1 : (if a0_1 > 0 then (if (l0_2.length : Int) ≤ 512 then (if (l0_3.length : Int) ≤ 8 then ((trivetref04_MayKeys.f k l0_4).bind fun t179 => (if t179 = true then ((trivetref04_MayKeys.f k l0_5).bind fun t180 => (some t180)) else (some false))) else (some false)) else (some false)) else (some false)) = some r := by rw [if_pos rfl] at H; exact H
        clear H
        have H := H1
        clear H1
        by_cases c7 : a0_1 > 0
        · rw [if_pos c7] at H
          have c7b0 : decide (0 < a0_1) = true := decide_eq_true c7
          clear c7
          by_cases c8 : (l0_2.length : Int) ≤ 512
          · rw [if_pos c8] at H
            have c8b0 : decide ((l0_2.length : Int) ≤ 512) = true := decide_eq_true c8
            have c8b1 : decide (l0_2.length ≤ 512) = true := decide_eq_true (by omega)
            clear c8
            by_cases c9 : (l0_3.length : Int) ≤ 8
            · rw [if_pos c9] at H
              have c9b0 : decide ((l0_3.length : Int) ≤ 8) = true := decide_eq_true c9
              have c9b1 : decide (l0_3.length ≤ 8) = true := decide_eq_true (by omega)
              clear c9
              replace H := Option.bind_eq_some_iff.mp H
              obtain ⟨t179, A100, H⟩ := H
              replace H : (if t179 = true then ((trivetref04_MayKeys.f k l0_5).bind fun t180 => (some t180)) else (some false)) = some r := H
              have A10 := Aside0.mk A100
              clear A100
              by_cases c11 : t179 = true
              · subst c11
                have H1 : ((trivetref04_MayKeys.f k l0_5).bind fun t180 => (some t180)) = some r := by rw [if_pos rfl] at H; exact H
                clear H
                have H := H1
                clear H1
                replace H := Option.bind_eq_some_iff.mp H
                obtain ⟨t180, A120, H⟩ := H
                replace H : (some t180) = some r := H
                have A12 := Aside0.mk A120
                clear A120
                obtain rfl := Option.some.inj H
                go_enter Try.func21, Try.ntmps21
                go_wp2_with (first | ((with_reducible refine gate_dst (N := 1) rfl ?_); (try (refine gate_guard (by rfl) ?_; dsimp only)); refine box_event ?hg (N := 1) ?hd (cs := #[.int .i64 a0_0, .int .i64 a0_1, .slice A0_2 l0_2.length c0_2, .slice A0_3 l0_3.length c0_3, .slice A0_4 l0_4.length c0_4, .slice A0_5 l0_5.length c0_5]) (t := 36) ?hr ?_; (case hd => rfl); (case hg => rfl); (case hr => first | (go_simp; done) | (go_simp; rfl)); intro gb176 hg w13 hbox hb; have n0_ := Aside0.mk (below_step (by repeat (first | (with_reducible first | exact HB.out | apply below_alloc | apply pw_below_drewN | apply below_drew1) | exact HB.out)) hb); have n1_ := Aside0.mk (hbox); have n2_ := Aside0.mk ((by rw [hg]; exact (below_size (by repeat (first | (with_reducible first | exact HB.out | apply below_alloc | apply pw_below_drewN | apply below_drew1) | exact HB.out))) : w.heap.size ≤ gb176)); have n3_ := Aside0.mk ((by rw [hg]; exact (below_size (by repeat (first | (with_reducible first | exact HB.out | apply below_alloc | apply pw_below_drewN | apply below_drew1) | exact HB.out))) : w.heap.size ≤ gb176)); clear HB; have HB := n0_; have BK176 := n1_; have GW176 := n2_; have GE176 := n3_; clear n0_ n1_ n2_ n3_; clear hb hbox hg; have hcz14_0 : w13.cell? ⟨gb176, 0, none⟩ = some (.int .i64 a0_0) := (blk_cell BK176.out 0).trans rfl; have hcz14_1 : w13.cell? ⟨gb176, 1, none⟩ = some (.int .i64 a0_1) := (blk_cell BK176.out 1).trans rfl; have hcz14_2 : w13.cell? ⟨gb176, 2, none⟩ = some (.slice A0_2 l0_2.length c0_2) := (blk_cell BK176.out 2).trans rfl; have hcz14_3 : w13.cell? ⟨gb176, 3, none⟩ = some (.slice A0_3 l0_3.length c0_3) := (blk_cell BK176.out 3).trans rfl; have hcz14_4 : w13.cell? ⟨gb176, 4, none⟩ = some (.slice A0_4 l0_4.length c0_4) := (blk_cell BK176.out 4).trans rfl; have hcz14_5 : w13.cell? ⟨gb176, 5, none⟩ = some (.slice A0_5 l0_5.length c0_5) := (blk_cell BK176.out 5).trans rfl; have hfz14_0 := blk_frozen BK176.out 0; have hfz14_1 := blk_frozen BK176.out 1; have hfz14_2 := blk_frozen BK176.out 2; have hfz14_3 := blk_frozen BK176.out 3; have hfz14_4 := blk_frozen BK176.out 4; have hfz14_5 := blk_frozen BK176.out 5) | ((with_reducible refine gate_callee (f := 37) rfl ?_); refine goesL_ (some 5) rfl rfl Try.func37 (by kernel_rfl) rfl #[.int .i64 a0_0] rfl (by (try simp only [List.map_toArray, List.map_cons, List.map_nil]); first | done | rfl | (simp only [List.length_drop, List.length_take]; rfl)) ?_; (with_reducible refine (trivetref04_count.calls a0_0 true _ A2.out).mono ?_); rintro e w' ⟨rfl, ⟨nd, rfl⟩⟩; refine ⟨_, rfl, ?_⟩) | (go_at_call 37; (with_reducible refine (trivetref04_count.calls a0_1 true _ A5.out).mono ?_); rintro e w' ⟨rfl, ⟨nd, rfl⟩⟩) | (go_at_call 50; (with_reducible refine (trivetref04_MayKeys.calls k _ _ l0_4 true _ ?side1 ?side2 A10.out).mono ?_); (case side1 => repeat (first | exact (Kd.C_below HR0_4.out (by repeat (first | (with_reducible first | exact HB.out | apply below_alloc | apply pw_below_drewN | apply below_drew1 | refine below_set ?_ GE176.out) | exact HB.out))) | (with_reducible refine Kd.C_alloc ?_ _) | (with_reducible refine Kd.C_drewN ?_ _) | (with_reducible refine Kd.C_drew ?_))); (case side2 => exact HC0_4.out); rintro e w15 ⟨rfl, hb⟩; have n0_ := Aside0.mk (blk_below (g := gb176) (o := .cells #[.int .i64 a0_0, .int .i64 a0_1, .slice A0_2 l0_2.length c0_2, .slice A0_3 l0_3.length c0_3, .slice A0_4 l0_4.length c0_4, .slice A0_5 l0_5.length c0_5] 36 (0, 0)) (by (with_reducible repeat (first | refine blk_drewN ?_ _ | refine blk_drew ?_ | refine blk_alloc ?_ _)); exact BK176.out) hb); have n1_ := Aside0.mk (below_step (by repeat (first | (with_reducible first | exact HB.out | apply below_alloc | apply pw_below_drewN | apply below_drew1 | refine below_set ?_ GE176.out) | exact HB.out)) hb); clear BK176; clear HB; have BK176 := n0_; have HB := n1_; clear n0_ n1_; (try clear hb); (try clear hb2); (try clear hk); (try clear hi); have hcz16_0 : w15.cell? ⟨gb176, 0, none⟩ = some (.int .i64 a0_0) := (blk_cell BK176.out 0).trans rfl; have hcz16_1 : w15.cell? ⟨gb176, 1, none⟩ = some (.int .i64 a0_1) := (blk_cell BK176.out 1).trans rfl; have hcz16_2 : w15.cell? ⟨gb176, 2, none⟩ = some (.slice A0_2 l0_2.length c0_2) := (blk_cell BK176.out 2).trans rfl; have hcz16_3 : w15.cell? ⟨gb176, 3, none⟩ = some (.slice A0_3 l0_3.length c0_3) := (blk_cell BK176.out 3).trans rfl; have hcz16_4 : w15.cell? ⟨gb176, 4, none⟩ = some (.slice A0_4 l0_4.length c0_4) := (blk_cell BK176.out 4).trans rfl; have hcz16_5 : w15.cell? ⟨gb176, 5, none⟩ = some (.slice A0_5 l0_5.length c0_5) := (blk_cell BK176.out 5).trans rfl; have hfz16_0 := blk_frozen BK176.out 0; have hfz16_1 := blk_frozen BK176.out 1; have hfz16_2 := blk_frozen BK176.out 2; have hfz16_3 := blk_frozen BK176.out 3; have hfz16_4 := blk_frozen BK176.out 4; have hfz16_5 := blk_frozen BK176.out 5) | (go_at_call 50; (with_reducible refine (trivetref04_MayKeys.calls k _ _ l0_5 t180 _ ?side1 ?side2 A12.out).mono ?_); (case side1 => repeat (first | exact (Kd.C_below HR0_5.out HB.out) | (with_reducible refine Kd.C_alloc ?_ _) | (with_reducible refine Kd.C_drewN ?_ _) | (with_reducible refine Kd.C_drew ?_))); (case side2 => exact HC0_5.out); rintro e w17 ⟨rfl, hb⟩; have n0_ := Aside0.mk (blk_below (g := gb176) (o := .cells #[.int .i64 a0_0, .int .i64 a0_1, .slice A0_2 l0_2.length c0_2, .slice A0_3 l0_3.length c0_3, .slice A0_4 l0_4.length c0_4, .slice A0_5 l0_5.length c0_5] 36 (0, 0)) (by (with_reducible repeat (first | refine blk_drewN ?_ _ | refine blk_drew ?_ | refine blk_alloc ?_ _)); exact BK176.out) hb); have n1_ := Aside0.mk (below_step (by repeat (first | (with_reducible first | exact HB.out | apply below_alloc | apply pw_below_drewN | apply below_drew1 | refine below_set ?_ GE176.out) | exact HB.out)) hb); clear BK176; clear HB; have BK176 := n0_; have HB := n1_; clear n0_ n1_; (try clear hb); (try clear hb2); (try clear hk); (try clear hi)))
                go_ret
                exact ⟨by first | rfl | (simp [errW_none, errW_some] <;> rfl) | (simp [*, errW_none, errW_some] <;> rfl), by repeat (first | (with_reducible first | exact HB.out | apply below_alloc | apply pw_below_drewN | apply below_drew1 | refine below_set ?_ GE176.out) | exact HB.out)⟩
              · replace c11 := Bool.eq_false_iff.mpr c11
                subst c11
                have H1 : (some false) = some r := by rw [if_neg (show ¬ (false = true) by decide)] at H; exact H
                clear H
                have H := H1
                clear H1
                obtain rfl := Option.some.inj H
                go_enter Try.func21, Try.ntmps21
                go_wp2_with (first | ((with_reducible refine gate_dst (N := 1) rfl ?_); (try (refine gate_guard (by rfl) ?_; dsimp only)); refine box_event ?hg (N := 1) ?hd (cs := #[.int .i64 a0_0, .int .i64 a0_1, .slice A0_2 l0_2.length c0_2, .slice A0_3 l0_3.length c0_3, .slice A0_4 l0_4.length c0_4, .slice A0_5 l0_5.length c0_5]) (t := 36) ?hr ?_; (case hd => rfl); (case hg => rfl); (case hr => first | (go_simp; done) | (go_simp; rfl)); intro gb176 hg w18 hbox hb; have n0_ := Aside0.mk (below_step (by repeat (first | (with_reducible first | exact HB.out | apply below_alloc | apply pw_below_drewN | apply below_drew1) | exact HB.out)) hb); have n1_ := Aside0.mk (hbox); have n2_ := Aside0.mk ((by rw [hg]; exact (below_size (by repeat (first | (with_reducible first | exact HB.out | apply below_alloc | apply pw_below_drewN | apply below_drew1) | exact HB.out))) : w.heap.size ≤ gb176)); have n3_ := Aside0.mk ((by rw [hg]; exact (below_size (by repeat (first | (with_reducible first | exact HB.out | apply below_alloc | apply pw_below_drewN | apply below_drew1) | exact HB.out))) : w.heap.size ≤ gb176)); clear HB; have HB := n0_; have BK176 := n1_; have GW176 := n2_; have GE176 := n3_; clear n0_ n1_ n2_ n3_; clear hb hbox hg; have hcz19_0 : w18.cell? ⟨gb176, 0, none⟩ = some (.int .i64 a0_0) := (blk_cell BK176.out 0).trans rfl; have hcz19_1 : w18.cell? ⟨gb176, 1, none⟩ = some (.int .i64 a0_1) := (blk_cell BK176.out 1).trans rfl; have hcz19_2 : w18.cell? ⟨gb176, 2, none⟩ = some (.slice A0_2 l0_2.length c0_2) := (blk_cell BK176.out 2).trans rfl; have hcz19_3 : w18.cell? ⟨gb176, 3, none⟩ = some (.slice A0_3 l0_3.length c0_3) := (blk_cell BK176.out 3).trans rfl; have hcz19_4 : w18.cell? ⟨gb176, 4, none⟩ = some (.slice A0_4 l0_4.length c0_4) := (blk_cell BK176.out 4).trans rfl; have hcz19_5 : w18.cell? ⟨gb176, 5, none⟩ = some (.slice A0_5 l0_5.length c0_5) := (blk_cell BK176.out 5).trans rfl; have hfz19_0 := blk_frozen BK176.out 0; have hfz19_1 := blk_frozen BK176.out 1; have hfz19_2 := blk_frozen BK176.out 2; have hfz19_3 := blk_frozen BK176.out 3; have hfz19_4 := blk_frozen BK176.out 4; have hfz19_5 := blk_frozen BK176.out 5) | ((with_reducible refine gate_callee (f := 37) rfl ?_); refine goesL_ (some 5) rfl rfl Try.func37 (by kernel_rfl) rfl #[.int .i64 a0_0] rfl (by (try simp only [List.map_toArray, List.map_cons, List.map_nil]); first | done | rfl | (simp only [List.length_drop, List.length_take]; rfl)) ?_; (with_reducible refine (trivetref04_count.calls a0_0 true _ A2.out).mono ?_); rintro e w' ⟨rfl, ⟨nd, rfl⟩⟩; refine ⟨_, rfl, ?_⟩) | (go_at_call 37; (with_reducible refine (trivetref04_count.calls a0_1 true _ A5.out).mono ?_); rintro e w' ⟨rfl, ⟨nd, rfl⟩⟩) | (go_at_call 50; (with_reducible refine (trivetref04_MayKeys.calls k _ _ l0_4 false _ ?side1 ?side2 A10.out).mono ?_); (case side1 => repeat (first | exact (Kd.C_below HR0_4.out (by repeat (first | (with_reducible first | exact HB.out | apply below_alloc | apply pw_below_drewN | apply below_drew1 | refine below_set ?_ GE176.out) | exact HB.out))) | (with_reducible refine Kd.C_alloc ?_ _) | (with_reducible refine Kd.C_drewN ?_ _) | (with_reducible refine Kd.C_drew ?_))); (case side2 => exact HC0_4.out); rintro e w20 ⟨rfl, hb⟩; have n0_ := Aside0.mk (blk_below (g := gb176) (o := .cells #[.int .i64 a0_0, .int .i64 a0_1, .slice A0_2 l0_2.length c0_2, .slice A0_3 l0_3.length c0_3, .slice A0_4 l0_4.length c0_4, .slice A0_5 l0_5.length c0_5] 36 (0, 0)) (by (with_reducible repeat (first | refine blk_drewN ?_ _ | refine blk_drew ?_ | refine blk_alloc ?_ _)); exact BK176.out) hb); have n1_ := Aside0.mk (below_step (by repeat (first | (with_reducible first | exact HB.out | apply below_alloc | apply pw_below_drewN | apply below_drew1 | refine below_set ?_ GE176.out) | exact HB.out)) hb); clear BK176; clear HB; have BK176 := n0_; have HB := n1_; clear n0_ n1_; (try clear hb); (try clear hb2); (try clear hk); (try clear hi)))
                go_ret
                exact ⟨by first | rfl | (simp [errW_none, errW_some] <;> rfl) | (simp [*, errW_none, errW_some] <;> rfl), by repeat (first | (with_reducible first | exact HB.out | apply below_alloc | apply pw_below_drewN | apply below_drew1 | refine below_set ?_ GE176.out) | exact HB.out)⟩
            · rw [if_neg c9] at H
              have c9b0 : decide ((l0_3.length : Int) ≤ 8) = false := decide_eq_false c9
              have c9b1 : decide (l0_3.length ≤ 8) = false := decide_eq_false (by omega)
              clear c9
              obtain rfl := Option.some.inj H
              go_enter Try.func21, Try.ntmps21
              go_wp2_with (first | ((with_reducible refine gate_dst (N := 1) rfl ?_); (try (refine gate_guard (by rfl) ?_; dsimp only)); refine box_event ?hg (N := 1) ?hd (cs := #[.int .i64 a0_0, .int .i64 a0_1, .slice A0_2 l0_2.length c0_2, .slice A0_3 l0_3.length c0_3, .slice A0_4 l0_4.length c0_4, .slice A0_5 l0_5.length c0_5]) (t := 36) ?hr ?_; (case hd => rfl); (case hg => rfl); (case hr => first | (go_simp; done) | (go_simp; rfl)); intro gb176 hg w21 hbox hb; have n0_ := Aside0.mk (below_step (by repeat (first | (with_reducible first | exact HB.out | apply below_alloc | apply pw_below_drewN | apply below_drew1) | exact HB.out)) hb); have n1_ := Aside0.mk (hbox); have n2_ := Aside0.mk ((by rw [hg]; exact (below_size (by repeat (first | (with_reducible first | exact HB.out | apply below_alloc | apply pw_below_drewN | apply below_drew1) | exact HB.out))) : w.heap.size ≤ gb176)); have n3_ := Aside0.mk ((by rw [hg]; exact (below_size (by repeat (first | (with_reducible first | exact HB.out | apply below_alloc | apply pw_below_drewN | apply below_drew1) | exact HB.out))) : w.heap.size ≤ gb176)); clear HB; have HB := n0_; have BK176 := n1_; have GW176 := n2_; have GE176 := n3_; clear n0_ n1_ n2_ n3_; clear hb hbox hg; have hcz22_0 : w21.cell? ⟨gb176, 0, none⟩ = some (.int .i64 a0_0) := (blk_cell BK176.out 0).trans rfl; have hcz22_1 : w21.cell? ⟨gb176, 1, none⟩ = some (.int .i64 a0_1) := (blk_cell BK176.out 1).trans rfl; have hcz22_2 : w21.cell? ⟨gb176, 2, none⟩ = some (.slice A0_2 l0_2.length c0_2) := (blk_cell BK176.out 2).trans rfl; have hcz22_3 : w21.cell? ⟨gb176, 3, none⟩ = some (.slice A0_3 l0_3.length c0_3) := (blk_cell BK176.out 3).trans rfl; have hcz22_4 : w21.cell? ⟨gb176, 4, none⟩ = some (.slice A0_4 l0_4.length c0_4) := (blk_cell BK176.out 4).trans rfl; have hcz22_5 : w21.cell? ⟨gb176, 5, none⟩ = some (.slice A0_5 l0_5.length c0_5) := (blk_cell BK176.out 5).trans rfl; have hfz22_0 := blk_frozen BK176.out 0; have hfz22_1 := blk_frozen BK176.out 1; have hfz22_2 := blk_frozen BK176.out 2; have hfz22_3 := blk_frozen BK176.out 3; have hfz22_4 := blk_frozen BK176.out 4; have hfz22_5 := blk_frozen BK176.out 5) | ((with_reducible refine gate_callee (f := 37) rfl ?_); refine goesL_ (some 5) rfl rfl Try.func37 (by kernel_rfl) rfl #[.int .i64 a0_0] rfl (by (try simp only [List.map_toArray, List.map_cons, List.map_nil]); first | done | rfl | (simp only [List.length_drop, List.length_take]; rfl)) ?_; (with_reducible refine (trivetref04_count.calls a0_0 true _ A2.out).mono ?_); rintro e w' ⟨rfl, ⟨nd, rfl⟩⟩; refine ⟨_, rfl, ?_⟩) | (go_at_call 37; (with_reducible refine (trivetref04_count.calls a0_1 true _ A5.out).mono ?_); rintro e w' ⟨rfl, ⟨nd, rfl⟩⟩))
              go_ret
              exact ⟨by first | rfl | (simp [errW_none, errW_some] <;> rfl) | (simp [*, errW_none, errW_some] <;> rfl), by repeat (first | (with_reducible first | exact HB.out | apply below_alloc | apply pw_below_drewN | apply below_drew1 | refine below_set ?_ GE176.out) | exact HB.out)⟩
          · rw [if_neg c8] at H
            have c8b0 : decide ((l0_2.length : Int) ≤ 512) = false := decide_eq_false c8
            have c8b1 : decide (l0_2.length ≤ 512) = false := decide_eq_false (by omega)
            clear c8
            obtain rfl := Option.some.inj H
            go_enter Try.func21, Try.ntmps21
            go_wp2_with (first | ((with_reducible refine gate_dst (N := 1) rfl ?_); (try (refine gate_guard (by rfl) ?_; dsimp only)); refine box_event ?hg (N := 1) ?hd (cs := #[.int .i64 a0_0, .int .i64 a0_1, .slice A0_2 l0_2.length c0_2, .slice A0_3 l0_3.length c0_3, .slice A0_4 l0_4.length c0_4, .slice A0_5 l0_5.length c0_5]) (t := 36) ?hr ?_; (case hd => rfl); (case hg => rfl); (case hr => first | (go_simp; done) | (go_simp; rfl)); intro gb176 hg w23 hbox hb; have n0_ := Aside0.mk (below_step (by repeat (first | (with_reducible first | exact HB.out | apply below_alloc | apply pw_below_drewN | apply below_drew1) | exact HB.out)) hb); have n1_ := Aside0.mk (hbox); have n2_ := Aside0.mk ((by rw [hg]; exact (below_size (by repeat (first | (with_reducible first | exact HB.out | apply below_alloc | apply pw_below_drewN | apply below_drew1) | exact HB.out))) : w.heap.size ≤ gb176)); have n3_ := Aside0.mk ((by rw [hg]; exact (below_size (by repeat (first | (with_reducible first | exact HB.out | apply below_alloc | apply pw_below_drewN | apply below_drew1) | exact HB.out))) : w.heap.size ≤ gb176)); clear HB; have HB := n0_; have BK176 := n1_; have GW176 := n2_; have GE176 := n3_; clear n0_ n1_ n2_ n3_; clear hb hbox hg; have hcz24_0 : w23.cell? ⟨gb176, 0, none⟩ = some (.int .i64 a0_0) := (blk_cell BK176.out 0).trans rfl; have hcz24_1 : w23.cell? ⟨gb176, 1, none⟩ = some (.int .i64 a0_1) := (blk_cell BK176.out 1).trans rfl; have hcz24_2 : w23.cell? ⟨gb176, 2, none⟩ = some (.slice A0_2 l0_2.length c0_2) := (blk_cell BK176.out 2).trans rfl; have hcz24_3 : w23.cell? ⟨gb176, 3, none⟩ = some (.slice A0_3 l0_3.length c0_3) := (blk_cell BK176.out 3).trans rfl; have hcz24_4 : w23.cell? ⟨gb176, 4, none⟩ = some (.slice A0_4 l0_4.length c0_4) := (blk_cell BK176.out 4).trans rfl; have hcz24_5 : w23.cell? ⟨gb176, 5, none⟩ = some (.slice A0_5 l0_5.length c0_5) := (blk_cell BK176.out 5).trans rfl; have hfz24_0 := blk_frozen BK176.out 0; have hfz24_1 := blk_frozen BK176.out 1; have hfz24_2 := blk_frozen BK176.out 2; have hfz24_3 := blk_frozen BK176.out 3; have hfz24_4 := blk_frozen BK176.out 4; have hfz24_5 := blk_frozen BK176.out 5) | ((with_reducible refine gate_callee (f := 37) rfl ?_); refine goesL_ (some 5) rfl rfl Try.func37 (by kernel_rfl) rfl #[.int .i64 a0_0] rfl (by (try simp only [List.map_toArray, List.map_cons, List.map_nil]); first | done | rfl | (simp only [List.length_drop, List.length_take]; rfl)) ?_; (with_reducible refine (trivetref04_count.calls a0_0 true _ A2.out).mono ?_); rintro e w' ⟨rfl, ⟨nd, rfl⟩⟩; refine ⟨_, rfl, ?_⟩) | (go_at_call 37; (with_reducible refine (trivetref04_count.calls a0_1 true _ A5.out).mono ?_); rintro e w' ⟨rfl, ⟨nd, rfl⟩⟩))
            go_ret
            exact ⟨by first | rfl | (simp [errW_none, errW_some] <;> rfl) | (simp [*, errW_none, errW_some] <;> rfl), by repeat (first | (with_reducible first | exact HB.out | apply below_alloc | apply pw_below_drewN | apply below_drew1 | refine below_set ?_ GE176.out) | exact HB.out)⟩
        · rw [if_neg c7] at H
          have c7b0 : decide (0 < a0_1) = false := decide_eq_false c7
          clear c7
          obtain rfl := Option.some.inj H
          go_enter Try.func21, Try.ntmps21
          go_wp2_with (first | ((with_reducible refine gate_dst (N := 1) rfl ?_); (try (refine gate_guard (by rfl) ?_; dsimp only)); refine box_event ?hg (N := 1) ?hd (cs := #[.int .i64 a0_0, .int .i64 a0_1, .slice A0_2 l0_2.length c0_2, .slice A0_3 l0_3.length c0_3, .slice A0_4 l0_4.length c0_4, .slice A0_5 l0_5.length c0_5]) (t := 36) ?hr ?_; (case hd => rfl); (case hg => rfl); (case hr => first | (go_simp; done) | (go_simp; rfl)); intro gb176 hg w25 hbox hb; have n0_ := Aside0.mk (below_step (by repeat (first | (with_reducible first | exact HB.out | apply below_alloc | apply pw_below_drewN | apply below_drew1) | exact HB.out)) hb); have n1_ := Aside0.mk (hbox); have n2_ := Aside0.mk ((by rw [hg]; exact (below_size (by repeat (first | (with_reducible first | exact HB.out | apply below_alloc | apply pw_below_drewN | apply below_drew1) | exact HB.out))) : w.heap.size ≤ gb176)); have n3_ := Aside0.mk ((by rw [hg]; exact (below_size (by repeat (first | (with_reducible first | exact HB.out | apply below_alloc | apply pw_below_drewN | apply below_drew1) | exact HB.out))) : w.heap.size ≤ gb176)); clear HB; have HB := n0_; have BK176 := n1_; have GW176 := n2_; have GE176 := n3_; clear n0_ n1_ n2_ n3_; clear hb hbox hg; have hcz26_0 : w25.cell? ⟨gb176, 0, none⟩ = some (.int .i64 a0_0) := (blk_cell BK176.out 0).trans rfl; have hcz26_1 : w25.cell? ⟨gb176, 1, none⟩ = some (.int .i64 a0_1) := (blk_cell BK176.out 1).trans rfl; have hcz26_2 : w25.cell? ⟨gb176, 2, none⟩ = some (.slice A0_2 l0_2.length c0_2) := (blk_cell BK176.out 2).trans rfl; have hcz26_3 : w25.cell? ⟨gb176, 3, none⟩ = some (.slice A0_3 l0_3.length c0_3) := (blk_cell BK176.out 3).trans rfl; have hcz26_4 : w25.cell? ⟨gb176, 4, none⟩ = some (.slice A0_4 l0_4.length c0_4) := (blk_cell BK176.out 4).trans rfl; have hcz26_5 : w25.cell? ⟨gb176, 5, none⟩ = some (.slice A0_5 l0_5.length c0_5) := (blk_cell BK176.out 5).trans rfl; have hfz26_0 := blk_frozen BK176.out 0; have hfz26_1 := blk_frozen BK176.out 1; have hfz26_2 := blk_frozen BK176.out 2; have hfz26_3 := blk_frozen BK176.out 3; have hfz26_4 := blk_frozen BK176.out 4; have hfz26_5 := blk_frozen BK176.out 5) | ((with_reducible refine gate_callee (f := 37) rfl ?_); refine goesL_ (some 5) rfl rfl Try.func37 (by kernel_rfl) rfl #[.int .i64 a0_0] rfl (by (try simp only [List.map_toArray, List.map_cons, List.map_nil]); first | done | rfl | (simp only [List.length_drop, List.length_take]; rfl)) ?_; (with_reducible refine (trivetref04_count.calls a0_0 true _ A2.out).mono ?_); rintro e w' ⟨rfl, ⟨nd, rfl⟩⟩; refine ⟨_, rfl, ?_⟩) | (go_at_call 37; (with_reducible refine (trivetref04_count.calls a0_1 true _ A5.out).mono ?_); rintro e w' ⟨rfl, ⟨nd, rfl⟩⟩))
          go_ret
          exact ⟨by first | rfl | (simp [errW_none, errW_some] <;> rfl) | (simp [*, errW_none, errW_some] <;> rfl), by repeat (first | (with_reducible first | exact HB.out | apply below_alloc | apply pw_below_drewN | apply below_drew1 | refine below_set ?_ GE176.out) | exact HB.out)⟩
      · replace c6 := Bool.eq_false_iff.mpr c6
        subst c6
        have H1 : (some false) = some r := by rw [if_neg (show ¬ (false = true) by decide)] at H; exact H
        clear H
        have H := H1
        clear H1
        obtain rfl := Option.some.inj H
        go_enter Try.func21, Try.ntmps21
        go_wp2_with (first | ((with_reducible refine gate_dst (N := 1) rfl ?_); (try (refine gate_guard (by rfl) ?_; dsimp only)); refine box_event ?hg (N := 1) ?hd (cs := #[.int .i64 a0_0, .int .i64 a0_1, .slice A0_2 l0_2.length c0_2, .slice A0_3 l0_3.length c0_3, .slice A0_4 l0_4.length c0_4, .slice A0_5 l0_5.length c0_5]) (t := 36) ?hr ?_; (case hd => rfl); (case hg => rfl); (case hr => first | (go_simp; done) | (go_simp; rfl)); intro gb176 hg w27 hbox hb; have n0_ := Aside0.mk (below_step (by repeat (first | (with_reducible first | exact HB.out | apply below_alloc | apply pw_below_drewN | apply below_drew1) | exact HB.out)) hb); have n1_ := Aside0.mk (hbox); have n2_ := Aside0.mk ((by rw [hg]; exact (below_size (by repeat (first | (with_reducible first | exact HB.out | apply below_alloc | apply pw_below_drewN | apply below_drew1) | exact HB.out))) : w.heap.size ≤ gb176)); have n3_ := Aside0.mk ((by rw [hg]; exact (below_size (by repeat (first | (with_reducible first | exact HB.out | apply below_alloc | apply pw_below_drewN | apply below_drew1) | exact HB.out))) : w.heap.size ≤ gb176)); clear HB; have HB := n0_; have BK176 := n1_; have GW176 := n2_; have GE176 := n3_; clear n0_ n1_ n2_ n3_; clear hb hbox hg; have hcz28_0 : w27.cell? ⟨gb176, 0, none⟩ = some (.int .i64 a0_0) := (blk_cell BK176.out 0).trans rfl; have hcz28_1 : w27.cell? ⟨gb176, 1, none⟩ = some (.int .i64 a0_1) := (blk_cell BK176.out 1).trans rfl; have hcz28_2 : w27.cell? ⟨gb176, 2, none⟩ = some (.slice A0_2 l0_2.length c0_2) := (blk_cell BK176.out 2).trans rfl; have hcz28_3 : w27.cell? ⟨gb176, 3, none⟩ = some (.slice A0_3 l0_3.length c0_3) := (blk_cell BK176.out 3).trans rfl; have hcz28_4 : w27.cell? ⟨gb176, 4, none⟩ = some (.slice A0_4 l0_4.length c0_4) := (blk_cell BK176.out 4).trans rfl; have hcz28_5 : w27.cell? ⟨gb176, 5, none⟩ = some (.slice A0_5 l0_5.length c0_5) := (blk_cell BK176.out 5).trans rfl; have hfz28_0 := blk_frozen BK176.out 0; have hfz28_1 := blk_frozen BK176.out 1; have hfz28_2 := blk_frozen BK176.out 2; have hfz28_3 := blk_frozen BK176.out 3; have hfz28_4 := blk_frozen BK176.out 4; have hfz28_5 := blk_frozen BK176.out 5) | ((with_reducible refine gate_callee (f := 37) rfl ?_); refine goesL_ (some 5) rfl rfl Try.func37 (by kernel_rfl) rfl #[.int .i64 a0_0] rfl (by (try simp only [List.map_toArray, List.map_cons, List.map_nil]); first | done | rfl | (simp only [List.length_drop, List.length_take]; rfl)) ?_; (with_reducible refine (trivetref04_count.calls a0_0 true _ A2.out).mono ?_); rintro e w' ⟨rfl, ⟨nd, rfl⟩⟩; refine ⟨_, rfl, ?_⟩) | (go_at_call 37; (with_reducible refine (trivetref04_count.calls a0_1 false _ A5.out).mono ?_); rintro e w' ⟨rfl, ⟨nd, rfl⟩⟩))
        go_ret
        exact ⟨by first | rfl | (simp [errW_none, errW_some] <;> rfl) | (simp [*, errW_none, errW_some] <;> rfl), by repeat (first | (with_reducible first | exact HB.out | apply below_alloc | apply pw_below_drewN | apply below_drew1 | refine below_set ?_ GE176.out) | exact HB.out)⟩
    · rw [if_neg c4] at H
      have c4b0 : decide (0 < a0_0) = false := decide_eq_false c4
      clear c4
      obtain rfl := Option.some.inj H
      go_enter Try.func21, Try.ntmps21
      go_wp2_with (first | ((with_reducible refine gate_dst (N := 1) rfl ?_); (try (refine gate_guard (by rfl) ?_; dsimp only)); refine box_event ?hg (N := 1) ?hd (cs := #[.int .i64 a0_0, .int .i64 a0_1, .slice A0_2 l0_2.length c0_2, .slice A0_3 l0_3.length c0_3, .slice A0_4 l0_4.length c0_4, .slice A0_5 l0_5.length c0_5]) (t := 36) ?hr ?_; (case hd => rfl); (case hg => rfl); (case hr => first | (go_simp; done) | (go_simp; rfl)); intro gb176 hg w29 hbox hb; have n0_ := Aside0.mk (below_step (by repeat (first | (with_reducible first | exact HB.out | apply below_alloc | apply pw_below_drewN | apply below_drew1) | exact HB.out)) hb); have n1_ := Aside0.mk (hbox); have n2_ := Aside0.mk ((by rw [hg]; exact (below_size (by repeat (first | (with_reducible first | exact HB.out | apply below_alloc | apply pw_below_drewN | apply below_drew1) | exact HB.out))) : w.heap.size ≤ gb176)); have n3_ := Aside0.mk ((by rw [hg]; exact (below_size (by repeat (first | (with_reducible first | exact HB.out | apply below_alloc | apply pw_below_drewN | apply below_drew1) | exact HB.out))) : w.heap.size ≤ gb176)); clear HB; have HB := n0_; have BK176 := n1_; have GW176 := n2_; have GE176 := n3_; clear n0_ n1_ n2_ n3_; clear hb hbox hg; have hcz30_0 : w29.cell? ⟨gb176, 0, none⟩ = some (.int .i64 a0_0) := (blk_cell BK176.out 0).trans rfl; have hcz30_1 : w29.cell? ⟨gb176, 1, none⟩ = some (.int .i64 a0_1) := (blk_cell BK176.out 1).trans rfl; have hcz30_2 : w29.cell? ⟨gb176, 2, none⟩ = some (.slice A0_2 l0_2.length c0_2) := (blk_cell BK176.out 2).trans rfl; have hcz30_3 : w29.cell? ⟨gb176, 3, none⟩ = some (.slice A0_3 l0_3.length c0_3) := (blk_cell BK176.out 3).trans rfl; have hcz30_4 : w29.cell? ⟨gb176, 4, none⟩ = some (.slice A0_4 l0_4.length c0_4) := (blk_cell BK176.out 4).trans rfl; have hcz30_5 : w29.cell? ⟨gb176, 5, none⟩ = some (.slice A0_5 l0_5.length c0_5) := (blk_cell BK176.out 5).trans rfl; have hfz30_0 := blk_frozen BK176.out 0; have hfz30_1 := blk_frozen BK176.out 1; have hfz30_2 := blk_frozen BK176.out 2; have hfz30_3 := blk_frozen BK176.out 3; have hfz30_4 := blk_frozen BK176.out 4; have hfz30_5 := blk_frozen BK176.out 5) | ((with_reducible refine gate_callee (f := 37) rfl ?_); refine goesL_ (some 5) rfl rfl Try.func37 (by kernel_rfl) rfl #[.int .i64 a0_0] rfl (by (try simp only [List.map_toArray, List.map_cons, List.map_nil]); first | done | rfl | (simp only [List.length_drop, List.length_take]; rfl)) ?_; (with_reducible refine (trivetref04_count.calls a0_0 true _ A2.out).mono ?_); rintro e w' ⟨rfl, ⟨nd, rfl⟩⟩; refine ⟨_, rfl, ?_⟩))
      go_ret
      exact ⟨by first | rfl | (simp [errW_none, errW_some] <;> rfl) | (simp [*, errW_none, errW_some] <;> rfl), by repeat (first | (with_reducible first | exact HB.out | apply below_alloc | apply pw_below_drewN | apply below_drew1 | refine below_set ?_ GE176.out) | exact HB.out)⟩
  · replace c3 := Bool.eq_false_iff.mpr c3
    subst c3
    have H1 : (some false) = some r := by rw [if_neg (show ¬ (false = true) by decide)] at H; exact H
    clear H
    have H := H1
    clear H1
    obtain rfl := Option.some.inj H
    go_enter Try.func21, Try.ntmps21
    go_wp2_with (first | ((with_reducible refine gate_dst (N := 1) rfl ?_); (try (refine gate_guard (by rfl) ?_; dsimp only)); refine box_event ?hg (N := 1) ?hd (cs := #[.int .i64 a0_0, .int .i64 a0_1, .slice A0_2 l0_2.length c0_2, .slice A0_3 l0_3.length c0_3, .slice A0_4 l0_4.length c0_4, .slice A0_5 l0_5.length c0_5]) (t := 36) ?hr ?_; (case hd => rfl); (case hg => rfl); (case hr => first | (go_simp; done) | (go_simp; rfl)); intro gb176 hg w31 hbox hb; have n0_ := Aside0.mk (below_step (by repeat (first | (with_reducible first | exact HB.out | apply below_alloc | apply pw_below_drewN | apply below_drew1) | exact HB.out)) hb); have n1_ := Aside0.mk (hbox); have n2_ := Aside0.mk ((by rw [hg]; exact (below_size (by repeat (first | (with_reducible first | exact HB.out | apply below_alloc | apply pw_below_drewN | apply below_drew1) | exact HB.out))) : w.heap.size ≤ gb176)); have n3_ := Aside0.mk ((by rw [hg]; exact (below_size (by repeat (first | (with_reducible first | exact HB.out | apply below_alloc | apply pw_below_drewN | apply below_drew1) | exact HB.out))) : w.heap.size ≤ gb176)); clear HB; have HB := n0_; have BK176 := n1_; have GW176 := n2_; have GE176 := n3_; clear n0_ n1_ n2_ n3_; clear hb hbox hg; have hcz32_0 : w31.cell? ⟨gb176, 0, none⟩ = some (.int .i64 a0_0) := (blk_cell BK176.out 0).trans rfl; have hcz32_1 : w31.cell? ⟨gb176, 1, none⟩ = some (.int .i64 a0_1) := (blk_cell BK176.out 1).trans rfl; have hcz32_2 : w31.cell? ⟨gb176, 2, none⟩ = some (.slice A0_2 l0_2.length c0_2) := (blk_cell BK176.out 2).trans rfl; have hcz32_3 : w31.cell? ⟨gb176, 3, none⟩ = some (.slice A0_3 l0_3.length c0_3) := (blk_cell BK176.out 3).trans rfl; have hcz32_4 : w31.cell? ⟨gb176, 4, none⟩ = some (.slice A0_4 l0_4.length c0_4) := (blk_cell BK176.out 4).trans rfl; have hcz32_5 : w31.cell? ⟨gb176, 5, none⟩ = some (.slice A0_5 l0_5.length c0_5) := (blk_cell BK176.out 5).trans rfl; have hfz32_0 := blk_frozen BK176.out 0; have hfz32_1 := blk_frozen BK176.out 1; have hfz32_2 := blk_frozen BK176.out 2; have hfz32_3 := blk_frozen BK176.out 3; have hfz32_4 := blk_frozen BK176.out 4; have hfz32_5 := blk_frozen BK176.out 5) | ((with_reducible refine gate_callee (f := 37) rfl ?_); refine goesL_ (some 5) rfl rfl Try.func37 (by kernel_rfl) rfl #[.int .i64 a0_0] rfl (by (try simp only [List.map_toArray, List.map_cons, List.map_nil]); first | done | rfl | (simp only [List.length_drop, List.length_take]; rfl)) ?_; (with_reducible refine (trivetref04_count.calls a0_0 false _ A2.out).mono ?_); rintro e w' ⟨rfl, ⟨nd, rfl⟩⟩; refine ⟨_, rfl, ?_⟩))
    go_ret
    exact ⟨by first | rfl | (simp [errW_none, errW_some] <;> rfl) | (simp [*, errW_none, errW_some] <;> rfl), by repeat (first | (with_reducible first | exact HB.out | apply below_alloc | apply pw_below_drewN | apply below_drew1 | refine below_set ?_ GE176.out) | exact HB.out)⟩

/-! ### trivetref04_replica: function 36 -/
def trivetref04_replica.f (a0 : Int) : Option (Bool) := if a0 ≥ 0 then (some (decide (a0 < 5))) else (some false)
set_option maxHeartbeats 8000000 in
set_option maxRecDepth 100000 in
theorem trivetref04_replica.calls (a0 : Int) (r : Bool) (w : World) (h : trivetref04_replica.f a0 = some r) :
    Calls Try.prog 36 #[.int .i64 a0] w fun e w' => e = .returned (.bool r) ∧ Drawn0 w w' := by
  have H : (if a0 ≥ 0 then (some (decide (a0 < 5))) else (some false)) = some r := h
  clear h
  by_cases c2 : a0 ≥ 0
  · rw [if_pos c2] at H
    have c2b0 : decide (0 ≤ a0) = true := decide_eq_true c2
    clear c2
    obtain rfl := Option.some.inj H
    go_enter Try.func36, Try.ntmps36
    go_wp2
    go_ret
    exact ⟨by first | rfl | (simp; done) | (simp [*]; done), by repeat (first | exact Drawn0.refl _ | apply Drawn0.step)⟩
  · rw [if_neg c2] at H
    have c2b0 : decide (0 ≤ a0) = false := decide_eq_false c2
    clear c2
    obtain rfl := Option.some.inj H
    go_enter Try.func36, Try.ntmps36
    go_wp2
    go_ret
    exact ⟨by first | rfl | (simp; done) | (simp [*]; done), by repeat (first | exact Drawn0.refl _ | apply Drawn0.step)⟩

/-! ### trivetref04_MayEntry: function 9 -/
def trivetref04_MayEntry.l0 : Nat → Int → Int → Int → Int → List (S36) → Option (Bool)
  | 0, _, _, _, _, _ => none
  | k + 1, x3, x182000, x182001, x182002, x182003 => if x3 < (x182003.length : Int) then (if 0 ≤ x3 then ((trivetref04_MayTxn.f k ((rd_T36 x182003 x3).f0) ((rd_T36 x182003 x3).f1) ((rd_T36 x182003 x3).f2) ((rd_T36 x182003 x3).f3) ((rd_T36 x182003 x3).f4) ((rd_T36 x182003 x3).f5)).bind fun t184 => (if t184 = true then (trivetref04_MayEntry.l0 k (wrap64 (x3 + 1)) x182000 x182001 x182002 x182003) else (some false))) else (none)) else (if x182000 = 1 then ((trivetref04_replica.f x182001).bind fun t185 => (if t185 = true then ((trivetref04_count.f x182002).bind fun t186 => (if t186 = true then (if (x182003.length : Int) ≥ 1 then (some (decide ((x182003.length : Int) ≤ 16))) else (some false)) else (some false))) else (some false))) else (some false))
def trivetref04_MayEntry.f (k : Nat) (a0_0 : Int) (a0_1 : Int) (a0_2 : Int) (l0_3 : List (S36)) : Option (Bool) := if a0_0 = 0 then ((trivetref04_SameEntry.f k a0_0 a0_1 a0_2 l0_3 0 0 0 ([] : List (S36))).bind fun t182 => (some t182)) else (trivetref04_MayEntry.l0 k 0 a0_0 a0_1 a0_2 l0_3)
theorem trivetref04_MayEntry.mono_l : ∀ k, (∀ y0 y1 y2 y3 y4, LeO (trivetref04_MayEntry.l0 k y0 y1 y2 y3 y4) (trivetref04_MayEntry.l0 (k + 1) y0 y1 y2 y3 y4))
  | 0 => fun _ _ _ _ _ r h => by simp [trivetref04_MayEntry.l0] at h
  | k + 1 => by
    have ih0 := trivetref04_MayEntry.mono_l k
    · intro y0 y1 y2 y3 y4
      unfold trivetref04_MayEntry.l0
      repeat' first
      | (with_reducible exact ih0 _ _ _ _ _)
      | (with_reducible exact trivetref04_MayTxn.mono _ _ _ _ _ _ _)
      | (with_reducible exact trivetref04_SameEntry.mono _ _ _ _ _ _ _ _ _)
      | (with_reducible exact LeO.refl _)
      | (with_reducible exact LeO.none _)
      | (with_reducible refine LeO.ite ?_ ?_)
      | (with_reducible refine LeO.bind ?_ (fun _ => ?_))
      | exact ih0 _ _ _ _ _
      | exact trivetref04_MayTxn.mono _ _ _ _ _ _ _
      | exact trivetref04_SameEntry.mono _ _ _ _ _ _ _ _ _
      | exact LeO.none _
      | refine LeO.ite ?_ ?_
      | refine LeO.bind ?_ (fun _ => ?_)
theorem trivetref04_MayEntry.mono : ∀ a0 a1 a2 a3 k, LeO (trivetref04_MayEntry.f k a0 a1 a2 a3) (trivetref04_MayEntry.f (k + 1) a0 a1 a2 a3) := by
  intro a0 a1 a2 a3 k
  have ih0 := trivetref04_MayEntry.mono_l k
  unfold trivetref04_MayEntry.f
  repeat' first
      | (with_reducible exact ih0 _ _ _ _ _)
      | (with_reducible exact trivetref04_MayTxn.mono _ _ _ _ _ _ _)
      | (with_reducible exact trivetref04_SameEntry.mono _ _ _ _ _ _ _ _ _)
      | (with_reducible exact LeO.refl _)
      | (with_reducible exact LeO.none _)
      | (with_reducible refine LeO.ite ?_ ?_)
      | (with_reducible refine LeO.bind ?_ (fun _ => ?_))
      | exact ih0 _ _ _ _ _
      | exact trivetref04_MayTxn.mono _ _ _ _ _ _ _
      | exact trivetref04_SameEntry.mono _ _ _ _ _ _ _ _ _
      | exact LeO.none _
      | refine LeO.ite ?_ ?_
      | refine LeO.bind ?_ (fun _ => ?_)
set_option maxHeartbeats 8000000 in
set_option maxRecDepth 100000 in
theorem trivetref04_MayEntry.calls (k : Nat) (a0_0 : Int) (a0_1 : Int) (a0_2 : Int) (A0_3 : Option Addr) (c0_3 : Nat) (l0_3 : List (S36)) (r : Bool) (w : World) (hr0_3 : Kd.C k36 w A0_3 l0_3.length l0_3) (hc0_3 : l0_3.length ≤ c0_3) (h : trivetref04_MayEntry.f k a0_0 a0_1 a0_2 l0_3 = some r) :
    Calls Try.prog 9 #[.agg #[.int .i64 a0_0, .int .i64 a0_1, .int .i64 a0_2, .slice A0_3 l0_3.length c0_3]] w fun e w' => e = .returned (.bool r) ∧ Below w.heap.size w w' := by
  have hu24 := Try.underlying24
  have hu36 := Try.underlying36
  have HR0_3 := Aside0.mk hr0_3
  have HC0_3 := Aside0.mk hc0_3
  clear hr0_3 hc0_3
  have HB := Aside0.mk (Below.refl w.heap.size w)
  have H : (if a0_0 = 0 then ((trivetref04_SameEntry.f k a0_0 a0_1 a0_2 l0_3 0 0 0 ([] : List (S36))).bind fun t182 => (some t182)) else (trivetref04_MayEntry.l0 k 0 a0_0 a0_1 a0_2 l0_3)) = some r := h
  clear h
  by_cases c2 : a0_0 = 0
  · rw [if_pos c2] at H
    have c2b0 : (a0_0 == 0) = true := beq_iff_eq.mpr c2
    have c2b1 : (a0_0 != 0) = false := bne_eq_false_iff_eq.mpr c2
    clear c2
    replace H := Option.bind_eq_some_iff.mp H
    obtain ⟨t182, A30, H⟩ := H
    replace H : (some t182) = some r := H
    have A3 := Aside0.mk A30
    clear A30
    obtain rfl := Option.some.inj H
    go_enter Try.func9, Try.ntmps9
    go_wp2_with (first | ((with_reducible refine gate_dst (N := 1) rfl ?_); (try (refine gate_guard (by rfl) ?_; dsimp only)); refine box_event ?hg (N := 1) ?hd (cs := #[.int .i64 a0_0, .int .i64 a0_1, .int .i64 a0_2, .slice A0_3 l0_3.length c0_3]) (t := 24) ?hr ?_; (case hd => rfl); (case hg => rfl); (case hr => first | (go_simp; done) | (go_simp; rfl)); intro gb181 hg w4 hbox hb; have n0_ := Aside0.mk (below_step (by repeat (first | (with_reducible first | exact HB.out | apply below_alloc | apply pw_below_drewN | apply below_drew1) | exact HB.out)) hb); have n1_ := Aside0.mk (hbox); have n2_ := Aside0.mk ((by rw [hg]; exact (below_size (by repeat (first | (with_reducible first | exact HB.out | apply below_alloc | apply pw_below_drewN | apply below_drew1) | exact HB.out))) : w.heap.size ≤ gb181)); have n3_ := Aside0.mk ((by rw [hg]; exact (below_size (by repeat (first | (with_reducible first | exact HB.out | apply below_alloc | apply pw_below_drewN | apply below_drew1) | exact HB.out))) : w.heap.size ≤ gb181)); clear HB; have HB := n0_; have BK181 := n1_; have GW181 := n2_; have GE181 := n3_; clear n0_ n1_ n2_ n3_; clear hb hbox hg; have hcz5_0 : w4.cell? ⟨gb181, 0, none⟩ = some (.int .i64 a0_0) := (blk_cell BK181.out 0).trans rfl; have hcz5_1 : w4.cell? ⟨gb181, 1, none⟩ = some (.int .i64 a0_1) := (blk_cell BK181.out 1).trans rfl; have hcz5_2 : w4.cell? ⟨gb181, 2, none⟩ = some (.int .i64 a0_2) := (blk_cell BK181.out 2).trans rfl; have hcz5_3 : w4.cell? ⟨gb181, 3, none⟩ = some (.slice A0_3 l0_3.length c0_3) := (blk_cell BK181.out 3).trans rfl; have hfz5_0 := blk_frozen BK181.out 0; have hfz5_1 := blk_frozen BK181.out 1; have hfz5_2 := blk_frozen BK181.out 2; have hfz5_3 := blk_frozen BK181.out 3) | ((with_reducible refine gate_callee (f := 10) rfl ?_); refine goesL_ (some 9) rfl rfl Try.func10 (by kernel_rfl) rfl #[.agg #[.int .i64 a0_0, .int .i64 a0_1, .int .i64 a0_2, .slice A0_3 l0_3.length c0_3], .agg #[.int .i64 0, .int .i64 0, .int .i64 0, .slice none 0 0]] rfl (by (try simp only [List.map_toArray, List.map_cons, List.map_nil]); first | done | rfl | (simp only [List.length_drop, List.length_take]; rfl)) ?_; (refine (trivetref04_SameEntry.calls k a0_0 a0_1 a0_2 _ _ l0_3 0 0 0 _ _ ([] : List (S36)) t182 _ ?side1 ?side2 ?side3 ?side4 A3.out).mono ?_); (case side1 => repeat (first | exact (Kd.C_below HR0_3.out HB.out) | (with_reducible refine Kd.C_alloc ?_ _) | (with_reducible refine Kd.C_drewN ?_ _) | (with_reducible refine Kd.C_drew ?_))); (case side2 => exact HC0_3.out); (case side3 => exact Kd.C_nil _ _); (case side4 => exact Nat.le_refl _); rintro e w6 ⟨rfl, hb⟩; refine ⟨_, rfl, ?_⟩; have n0_ := Aside0.mk (blk_below (g := gb181) (o := .cells #[.int .i64 a0_0, .int .i64 a0_1, .int .i64 a0_2, .slice A0_3 l0_3.length c0_3] 24 (0, 0)) (by (with_reducible repeat (first | refine blk_drewN ?_ _ | refine blk_drew ?_ | refine blk_alloc ?_ _)); exact BK181.out) hb); have n1_ := Aside0.mk (below_step (by repeat (first | (with_reducible first | exact HB.out | apply below_alloc | apply pw_below_drewN | apply below_drew1 | refine below_set ?_ GE181.out) | exact HB.out)) hb); clear BK181; clear HB; have BK181 := n0_; have HB := n1_; clear n0_ n1_; (try clear hb); (try clear hb2); (try clear hk); (try clear hi)))
    go_ret
    exact ⟨by first | rfl | (simp [errW_none, errW_some] <;> rfl) | (simp [*, errW_none, errW_some] <;> rfl), by repeat (first | (with_reducible first | exact HB.out | apply below_alloc | apply pw_below_drewN | apply below_drew1 | refine below_set ?_ GE181.out) | exact HB.out)⟩
  · rw [if_neg c2] at H
    have c2b0 : (a0_0 == 0) = false := beq_eq_false_iff_ne.mpr c2
    have c2b1 : (a0_0 != 0) = true := bne_iff_ne.mpr c2
    have H' := Aside0.mk H
    clear H
    go_enter Try.func9, Try.ntmps9
    go_wp2_with (first | ((with_reducible refine gate_dst (N := 1) rfl ?_); (try (refine gate_guard (by rfl) ?_; dsimp only)); refine box_event ?hg (N := 1) ?hd (cs := #[.int .i64 a0_0, .int .i64 a0_1, .int .i64 a0_2, .slice A0_3 l0_3.length c0_3]) (t := 24) ?hr ?_; (case hd => rfl); (case hg => rfl); (case hr => first | (go_simp; done) | (go_simp; rfl)); intro gb181 hg w7 hbox hb; have n0_ := Aside0.mk (below_step (by repeat (first | (with_reducible first | exact HB.out | apply below_alloc | apply pw_below_drewN | apply below_drew1) | exact HB.out)) hb); have n1_ := Aside0.mk (hbox); have n2_ := Aside0.mk ((by rw [hg]; exact (below_size (by repeat (first | (with_reducible first | exact HB.out | apply below_alloc | apply pw_below_drewN | apply below_drew1) | exact HB.out))) : w.heap.size ≤ gb181)); have n3_ := Aside0.mk ((by rw [hg]; exact (below_size (by repeat (first | (with_reducible first | exact HB.out | apply below_alloc | apply pw_below_drewN | apply below_drew1) | exact HB.out))) : w.heap.size ≤ gb181)); clear HB; have HB := n0_; have BK181 := n1_; have GW181 := n2_; have GE181 := n3_; clear n0_ n1_ n2_ n3_; clear hb hbox hg; have hcz8_0 : w7.cell? ⟨gb181, 0, none⟩ = some (.int .i64 a0_0) := (blk_cell BK181.out 0).trans rfl; have hcz8_1 : w7.cell? ⟨gb181, 1, none⟩ = some (.int .i64 a0_1) := (blk_cell BK181.out 1).trans rfl; have hcz8_2 : w7.cell? ⟨gb181, 2, none⟩ = some (.int .i64 a0_2) := (blk_cell BK181.out 2).trans rfl; have hcz8_3 : w7.cell? ⟨gb181, 3, none⟩ = some (.slice A0_3 l0_3.length c0_3) := (blk_cell BK181.out 3).trans rfl; have hfz8_0 := blk_frozen BK181.out 0; have hfz8_1 := blk_frozen BK181.out 1; have hfz8_2 := blk_frozen BK181.out 2; have hfz8_3 := blk_frozen BK181.out 3))
    go_loopg [3] k (fun kq v3 w' => ∃ (x3_1 : Int), v3 = .int .i64 x3_1 ∧ Aside0 (trivetref04_MayEntry.l0 kq x3_1 a0_0 a0_1 a0_2 l0_3 = some r) ∧ Aside0 (kq ≤ k) ∧ Aside0 (w'.heap[gb181]? = some (.cells #[.int .i64 a0_0, .int .i64 a0_1, .int .i64 a0_2, (.slice A0_3 l0_3.length c0_3)] 24 (0, 0))) ∧ Aside0 (Below w.heap.size w w'))
    case atStart => exact ⟨(0), (by first | rfl | (simp; done) | (simp [*]; done)), H', ⟨Nat.le_refl _⟩, ⟨by (with_reducible repeat (first | refine blk_drewN ?_ _ | refine blk_drew ?_ | refine blk_alloc ?_ _)); exact BK181.out⟩, ⟨by repeat (first | (with_reducible first | exact HB.out | apply below_alloc | apply pw_below_drewN | apply below_drew1 | refine below_set ?_ GE181.out) | exact HB.out)⟩⟩
    case round =>
      clear H'
      try clear c1
      try clear c2
      try clear c2b0
      try clear c2b1
      try clear p2
      try clear hcz5_0
      try clear hcz5_1
      try clear hcz5_2
      try clear hcz5_3
      try clear hcz8_0
      try clear hcz8_1
      try clear hcz8_2
      try clear hcz8_3
      try clear hfz5_0
      try clear hfz5_1
      try clear hfz5_2
      try clear hfz5_3
      try clear hfz8_0
      try clear hfz8_1
      try clear hfz8_2
      try clear hfz8_3
      obtain ⟨x3_1, rfl, HA, HK1, BK181, HB⟩ := hrel
      cases gk with
      | zero => exact absurd HA.out (by simp [trivetref04_MayEntry.l0])
      | succ k1 =>
        have H := HA.out
        clear HA
        simp only [trivetref04_MayEntry.l0] at H
        by_cases c9 : x3_1 < (l0_3.length : Int)
        · rw [if_pos c9] at H
          have c9b0 : decide (x3_1 < (l0_3.length : Int)) = true := decide_eq_true c9
          clear c9
          by_cases c10 : 0 ≤ x3_1
          · rw [if_pos c10] at H
            have c10b0 : decide (0 ≤ x3_1) = true := decide_eq_true c10
            clear c10
            replace H := Option.bind_eq_some_iff.mp H
            obtain ⟨t184, A110, H⟩ := H
            replace H : (if t184 = true then (trivetref04_MayEntry.l0 k1 (wrap64 (x3_1 + 1)) a0_0 a0_1 a0_2 l0_3) else (some false)) = some r := H
            have A11 := Aside0.mk A110
            clear A110
            by_cases c12 : t184 = true
            · subst c12
              have H1 : (trivetref04_MayEntry.l0 k1 (wrap64 (x3_1 + 1)) a0_0 a0_1 a0_2 l0_3) = some r := by rw [if_pos rfl] at H; exact H
              clear H
              have H := H1
              clear H1
              have H' := Aside0.mk H
              clear H
              have hcz13_0 : wr.cell? ⟨gb181, 0, none⟩ = some (.int .i64 a0_0) := (blk_cell BK181.out 0).trans rfl
              have hcz13_1 : wr.cell? ⟨gb181, 1, none⟩ = some (.int .i64 a0_1) := (blk_cell BK181.out 1).trans rfl
              have hcz13_2 : wr.cell? ⟨gb181, 2, none⟩ = some (.int .i64 a0_2) := (blk_cell BK181.out 2).trans rfl
              have hcz13_3 : wr.cell? ⟨gb181, 3, none⟩ = some (.slice A0_3 l0_3.length c0_3) := (blk_cell BK181.out 3).trans rfl
              have hfz13_0 := blk_frozen BK181.out 0
              have hfz13_1 := blk_frozen BK181.out 1
              have hfz13_2 := blk_frozen BK181.out 2
              have hfz13_3 := blk_frozen BK181.out 3
              have p183 : 0 ≤ (x3_1 : Int) := of_decide_eq_true (by first | (with_reducible assumption) | assumption)
              have q183 : x3_1 < (l0_3.length : Int) := of_decide_eq_true (by first | (with_reducible assumption) | assumption)
              obtain ⟨ad183, A183_2, c183_2, A183_3, c183_3, A183_4, c183_4, A183_5, c183_5, e183, hx183_0, hx183_1, hx183_2, hx183_3, hx183_4, hx183_5, hl183_2, hi183_2, hl183_3, hi183_3, hl183_4, hi183_4, hl183_5, hi183_5⟩ := at_T36 HR0_3.out x3_1 p183 q183
              cases e183
              replace hx183_0 := (HB.out.cell (World.block_lt_of_cell? w _ hx183_0)).trans hx183_0
              replace hx183_1 := (HB.out.cell (World.block_lt_of_cell? w _ hx183_1)).trans hx183_1
              replace hx183_2 := (HB.out.cell (World.block_lt_of_cell? w _ hx183_2)).trans hx183_2
              replace hx183_3 := (HB.out.cell (World.block_lt_of_cell? w _ hx183_3)).trans hx183_3
              replace hx183_4 := (HB.out.cell (World.block_lt_of_cell? w _ hx183_4)).trans hx183_4
              replace hx183_5 := (HB.out.cell (World.block_lt_of_cell? w _ hx183_5)).trans hx183_5
              have HR183_2 := Aside0.mk hi183_2
              have HC183_2 := Aside0.mk hl183_2
              clear hi183_2 hl183_2
              have HR183_3 := Aside0.mk hi183_3
              have HC183_3 := Aside0.mk hl183_3
              clear hi183_3 hl183_3
              have HR183_4 := Aside0.mk hi183_4
              have HC183_4 := Aside0.mk hl183_4
              clear hi183_4 hl183_4
              have HR183_5 := Aside0.mk hi183_5
              have HC183_5 := Aside0.mk hl183_5
              clear hi183_5 hl183_5
              replace p183 := eq_true p183
              replace q183 := eq_true q183
              go_wp2_with (first | ((with_reducible refine gate_callee (f := 21) rfl ?_); refine goesL_ (some 22) rfl rfl Try.func21 (by kernel_rfl) rfl #[.agg #[.int .i64 ((rd_T36 l0_3 x3_1).f0), .int .i64 ((rd_T36 l0_3 x3_1).f1), .slice A183_2 ((rd_T36 l0_3 x3_1).f2).length c183_2, .slice A183_3 ((rd_T36 l0_3 x3_1).f3).length c183_3, .slice A183_4 ((rd_T36 l0_3 x3_1).f4).length c183_4, .slice A183_5 ((rd_T36 l0_3 x3_1).f5).length c183_5]] rfl (by (try simp only [List.map_toArray, List.map_cons, List.map_nil]); first | done | rfl | (simp only [List.length_drop, List.length_take]; rfl)) ?_; (with_reducible refine (trivetref04_MayTxn.calls k1 ((rd_T36 l0_3 x3_1).f0) ((rd_T36 l0_3 x3_1).f1) _ _ ((rd_T36 l0_3 x3_1).f2) _ _ ((rd_T36 l0_3 x3_1).f3) _ _ ((rd_T36 l0_3 x3_1).f4) _ _ ((rd_T36 l0_3 x3_1).f5) true _ ?side1 ?side2 ?side3 ?side4 ?side5 ?side6 ?side7 ?side8 A11.out).mono ?_); (case side1 => repeat (first | exact (Kd.C_below HR183_2.out HB.out) | (with_reducible refine Kd.C_alloc ?_ _) | (with_reducible refine Kd.C_drewN ?_ _) | (with_reducible refine Kd.C_drew ?_))); (case side2 => exact HC183_2.out); (case side3 => repeat (first | exact (Kd.C_below HR183_3.out HB.out) | (with_reducible refine Kd.C_alloc ?_ _) | (with_reducible refine Kd.C_drewN ?_ _) | (with_reducible refine Kd.C_drew ?_))); (case side4 => exact HC183_3.out); (case side5 => repeat (first | exact (Kd.C_below HR183_4.out HB.out) | (with_reducible refine Kd.C_alloc ?_ _) | (with_reducible refine Kd.C_drewN ?_ _) | (with_reducible refine Kd.C_drew ?_))); (case side6 => exact HC183_4.out); (case side7 => repeat (first | exact (Kd.C_below HR183_5.out HB.out) | (with_reducible refine Kd.C_alloc ?_ _) | (with_reducible refine Kd.C_drewN ?_ _) | (with_reducible refine Kd.C_drew ?_))); (case side8 => exact HC183_5.out); rintro e w14 ⟨rfl, hb⟩; refine ⟨_, rfl, ?_⟩; have n0_ := Aside0.mk (blk_below (g := gb181) (o := .cells #[.int .i64 a0_0, .int .i64 a0_1, .int .i64 a0_2, .slice (some ad183) l0_3.length c0_3] 24 (0, 0)) (by (with_reducible repeat (first | refine blk_drewN ?_ _ | refine blk_drew ?_ | refine blk_alloc ?_ _)); exact BK181.out) hb); have n1_ := Aside0.mk (below_step (by repeat (first | (with_reducible first | exact HB.out | apply below_alloc | apply pw_below_drewN | apply below_drew1 | refine below_set ?_ GE181.out) | exact HB.out)) hb); clear BK181; clear HB; have BK181 := n0_; have HB := n1_; clear n0_ n1_; (try clear hb); (try clear hb2); (try clear hk); (try clear hi)))
              go_roundg k1
              case measure => have := HK1.out; omega
              case rel => exact ⟨(wrap64 (x3_1 + 1)), (by first | rfl | (simp; done) | (simp [*]; done)), H', ⟨by have := HK1.out; omega⟩, ⟨by (with_reducible repeat (first | refine blk_drewN ?_ _ | refine blk_drew ?_ | refine blk_alloc ?_ _)); exact BK181.out⟩, ⟨by repeat (first | (with_reducible first | exact HB.out | apply below_alloc | apply pw_below_drewN | apply below_drew1 | refine below_set ?_ GE181.out) | exact HB.out)⟩⟩
            · replace c12 := Bool.eq_false_iff.mpr c12
              subst c12
              have H1 : (some false) = some r := by rw [if_neg (show ¬ (false = true) by decide)] at H; exact H
              clear H
              have H := H1
              clear H1
              obtain rfl := Option.some.inj H
              have hcz15_0 : wr.cell? ⟨gb181, 0, none⟩ = some (.int .i64 a0_0) := (blk_cell BK181.out 0).trans rfl
              have hcz15_1 : wr.cell? ⟨gb181, 1, none⟩ = some (.int .i64 a0_1) := (blk_cell BK181.out 1).trans rfl
              have hcz15_2 : wr.cell? ⟨gb181, 2, none⟩ = some (.int .i64 a0_2) := (blk_cell BK181.out 2).trans rfl
              have hcz15_3 : wr.cell? ⟨gb181, 3, none⟩ = some (.slice A0_3 l0_3.length c0_3) := (blk_cell BK181.out 3).trans rfl
              have hfz15_0 := blk_frozen BK181.out 0
              have hfz15_1 := blk_frozen BK181.out 1
              have hfz15_2 := blk_frozen BK181.out 2
              have hfz15_3 := blk_frozen BK181.out 3
              have p183 : 0 ≤ (x3_1 : Int) := of_decide_eq_true (by first | (with_reducible assumption) | assumption)
              have q183 : x3_1 < (l0_3.length : Int) := of_decide_eq_true (by first | (with_reducible assumption) | assumption)
              obtain ⟨ad183, A183_2, c183_2, A183_3, c183_3, A183_4, c183_4, A183_5, c183_5, e183, hx183_0, hx183_1, hx183_2, hx183_3, hx183_4, hx183_5, hl183_2, hi183_2, hl183_3, hi183_3, hl183_4, hi183_4, hl183_5, hi183_5⟩ := at_T36 HR0_3.out x3_1 p183 q183
              cases e183
              replace hx183_0 := (HB.out.cell (World.block_lt_of_cell? w _ hx183_0)).trans hx183_0
              replace hx183_1 := (HB.out.cell (World.block_lt_of_cell? w _ hx183_1)).trans hx183_1
              replace hx183_2 := (HB.out.cell (World.block_lt_of_cell? w _ hx183_2)).trans hx183_2
              replace hx183_3 := (HB.out.cell (World.block_lt_of_cell? w _ hx183_3)).trans hx183_3
              replace hx183_4 := (HB.out.cell (World.block_lt_of_cell? w _ hx183_4)).trans hx183_4
              replace hx183_5 := (HB.out.cell (World.block_lt_of_cell? w _ hx183_5)).trans hx183_5
              have HR183_2 := Aside0.mk hi183_2
              have HC183_2 := Aside0.mk hl183_2
              clear hi183_2 hl183_2
              have HR183_3 := Aside0.mk hi183_3
              have HC183_3 := Aside0.mk hl183_3
              clear hi183_3 hl183_3
              have HR183_4 := Aside0.mk hi183_4
              have HC183_4 := Aside0.mk hl183_4
              clear hi183_4 hl183_4
              have HR183_5 := Aside0.mk hi183_5
              have HC183_5 := Aside0.mk hl183_5
              clear hi183_5 hl183_5
              replace p183 := eq_true p183
              replace q183 := eq_true q183
              go_wp2_with (first | ((with_reducible refine gate_callee (f := 21) rfl ?_); refine goesL_ (some 22) rfl rfl Try.func21 (by kernel_rfl) rfl #[.agg #[.int .i64 ((rd_T36 l0_3 x3_1).f0), .int .i64 ((rd_T36 l0_3 x3_1).f1), .slice A183_2 ((rd_T36 l0_3 x3_1).f2).length c183_2, .slice A183_3 ((rd_T36 l0_3 x3_1).f3).length c183_3, .slice A183_4 ((rd_T36 l0_3 x3_1).f4).length c183_4, .slice A183_5 ((rd_T36 l0_3 x3_1).f5).length c183_5]] rfl (by (try simp only [List.map_toArray, List.map_cons, List.map_nil]); first | done | rfl | (simp only [List.length_drop, List.length_take]; rfl)) ?_; (with_reducible refine (trivetref04_MayTxn.calls k1 ((rd_T36 l0_3 x3_1).f0) ((rd_T36 l0_3 x3_1).f1) _ _ ((rd_T36 l0_3 x3_1).f2) _ _ ((rd_T36 l0_3 x3_1).f3) _ _ ((rd_T36 l0_3 x3_1).f4) _ _ ((rd_T36 l0_3 x3_1).f5) false _ ?side1 ?side2 ?side3 ?side4 ?side5 ?side6 ?side7 ?side8 A11.out).mono ?_); (case side1 => repeat (first | exact (Kd.C_below HR183_2.out HB.out) | (with_reducible refine Kd.C_alloc ?_ _) | (with_reducible refine Kd.C_drewN ?_ _) | (with_reducible refine Kd.C_drew ?_))); (case side2 => exact HC183_2.out); (case side3 => repeat (first | exact (Kd.C_below HR183_3.out HB.out) | (with_reducible refine Kd.C_alloc ?_ _) | (with_reducible refine Kd.C_drewN ?_ _) | (with_reducible refine Kd.C_drew ?_))); (case side4 => exact HC183_3.out); (case side5 => repeat (first | exact (Kd.C_below HR183_4.out HB.out) | (with_reducible refine Kd.C_alloc ?_ _) | (with_reducible refine Kd.C_drewN ?_ _) | (with_reducible refine Kd.C_drew ?_))); (case side6 => exact HC183_4.out); (case side7 => repeat (first | exact (Kd.C_below HR183_5.out HB.out) | (with_reducible refine Kd.C_alloc ?_ _) | (with_reducible refine Kd.C_drewN ?_ _) | (with_reducible refine Kd.C_drew ?_))); (case side8 => exact HC183_5.out); rintro e w16 ⟨rfl, hb⟩; refine ⟨_, rfl, ?_⟩; have n0_ := Aside0.mk (blk_below (g := gb181) (o := .cells #[.int .i64 a0_0, .int .i64 a0_1, .int .i64 a0_2, .slice (some ad183) l0_3.length c0_3] 24 (0, 0)) (by (with_reducible repeat (first | refine blk_drewN ?_ _ | refine blk_drew ?_ | refine blk_alloc ?_ _)); exact BK181.out) hb); have n1_ := Aside0.mk (below_step (by repeat (first | (with_reducible first | exact HB.out | apply below_alloc | apply pw_below_drewN | apply below_drew1 | refine below_set ?_ GE181.out) | exact HB.out)) hb); clear BK181; clear HB; have BK181 := n0_; have HB := n1_; clear n0_ n1_; (try clear hb); (try clear hb2); (try clear hk); (try clear hi)))
              go_ret
              exact ⟨by first | rfl | (simp [errW_none, errW_some] <;> rfl) | (simp [*, errW_none, errW_some] <;> rfl), by repeat (first | (with_reducible first | exact HB.out | apply below_alloc | apply pw_below_drewN | apply below_drew1 | refine below_set ?_ GE181.out) | exact HB.out)⟩
          · rw [if_neg c10] at H
            exact absurd H (by simp)
        · rw [if_neg c9] at H
          have c9b0 : decide (x3_1 < (l0_3.length : Int)) = false := decide_eq_false c9
          clear c9
          by_cases c17 : a0_0 = 1
          · rw [if_pos c17] at H
            have c17b0 : (a0_0 == 1) = true := beq_iff_eq.mpr c17
            have c17b1 : (a0_0 != 1) = false := bne_eq_false_iff_eq.mpr c17
            clear c17
            replace H := Option.bind_eq_some_iff.mp H
            obtain ⟨t185, A180, H⟩ := H
            replace H : (if t185 = true then ((trivetref04_count.f a0_2).bind fun t186 => (if t186 = true then (if (l0_3.length : Int) ≥ 1 then (some (decide ((l0_3.length : Int) ≤ 16))) else (some false)) else (some false))) else (some false)) = some r := H
            have A18 := Aside0.mk A180
            clear A180
            by_cases c19 : t185 = true
            · subst c19
              have H1 : ((trivetref04_count.f a0_2).bind fun t186 => (if t186 = true then (if (l0_3.length : Int) ≥ 1 then (some (decide ((l0_3.length : Int) ≤ 16))) else (some false)) else (some false))) = some r := by rw [if_pos rfl] at H; exact H
              clear H
              have H := H1
              clear H1
              replace H := Option.bind_eq_some_iff.mp H
              obtain ⟨t186, A200, H⟩ := H
              replace H : (if t186 = true then (if (l0_3.length : Int) ≥ 1 then (some (decide ((l0_3.length : Int) ≤ 16))) else (some false)) else (some false)) = some r := H
              have A20 := Aside0.mk A200
              clear A200
              by_cases c21 : t186 = true
              · subst c21
                have H1 : (if (l0_3.length : Int) ≥ 1 then (some (decide ((l0_3.length : Int) ≤ 16))) else (some false)) = some r := by rw [if_pos rfl] at H; exact H
                clear H
                have H := H1
                clear H1
                by_cases c22 : (l0_3.length : Int) ≥ 1
                · rw [if_pos c22] at H
                  have c22b0 : decide (1 ≤ (l0_3.length : Int)) = true := decide_eq_true c22
                  have c22b1 : decide (1 ≤ l0_3.length) = true := decide_eq_true (by omega)
                  clear c22
                  obtain rfl := Option.some.inj H
                  have hcz23_0 : wr.cell? ⟨gb181, 0, none⟩ = some (.int .i64 a0_0) := (blk_cell BK181.out 0).trans rfl
                  have hcz23_1 : wr.cell? ⟨gb181, 1, none⟩ = some (.int .i64 a0_1) := (blk_cell BK181.out 1).trans rfl
                  have hcz23_2 : wr.cell? ⟨gb181, 2, none⟩ = some (.int .i64 a0_2) := (blk_cell BK181.out 2).trans rfl
                  have hcz23_3 : wr.cell? ⟨gb181, 3, none⟩ = some (.slice A0_3 l0_3.length c0_3) := (blk_cell BK181.out 3).trans rfl
                  have hfz23_0 := blk_frozen BK181.out 0
                  have hfz23_1 := blk_frozen BK181.out 1
                  have hfz23_2 := blk_frozen BK181.out 2
                  have hfz23_3 := blk_frozen BK181.out 3
                  go_wp2_with (first | (go_at_call 36; (with_reducible refine (trivetref04_replica.calls a0_1 true _ A18.out).mono ?_); rintro e w' ⟨rfl, ⟨nd, rfl⟩⟩) | (go_at_call 37; (with_reducible refine (trivetref04_count.calls a0_2 true _ A20.out).mono ?_); rintro e w' ⟨rfl, ⟨nd, rfl⟩⟩))
                  go_ret
                  exact ⟨by first | rfl | (simp [errW_none, errW_some] <;> rfl) | (simp [*, errW_none, errW_some] <;> rfl), by repeat (first | (with_reducible first | exact HB.out | apply below_alloc | apply pw_below_drewN | apply below_drew1 | refine below_set ?_ GE181.out) | exact HB.out)⟩
                · rw [if_neg c22] at H
                  have c22b0 : decide (1 ≤ (l0_3.length : Int)) = false := decide_eq_false c22
                  have c22b1 : decide (1 ≤ l0_3.length) = false := decide_eq_false (by omega)
                  clear c22
                  obtain rfl := Option.some.inj H
                  have hcz24_0 : wr.cell? ⟨gb181, 0, none⟩ = some (.int .i64 a0_0) := (blk_cell BK181.out 0).trans rfl
                  have hcz24_1 : wr.cell? ⟨gb181, 1, none⟩ = some (.int .i64 a0_1) := (blk_cell BK181.out 1).trans rfl
                  have hcz24_2 : wr.cell? ⟨gb181, 2, none⟩ = some (.int .i64 a0_2) := (blk_cell BK181.out 2).trans rfl
                  have hcz24_3 : wr.cell? ⟨gb181, 3, none⟩ = some (.slice A0_3 l0_3.length c0_3) := (blk_cell BK181.out 3).trans rfl
                  have hfz24_0 := blk_frozen BK181.out 0
                  have hfz24_1 := blk_frozen BK181.out 1
                  have hfz24_2 := blk_frozen BK181.out 2
                  have hfz24_3 := blk_frozen BK181.out 3
                  go_wp2_with (first | (go_at_call 36; (with_reducible refine (trivetref04_replica.calls a0_1 true _ A18.out).mono ?_); rintro e w' ⟨rfl, ⟨nd, rfl⟩⟩) | (go_at_call 37; (with_reducible refine (trivetref04_count.calls a0_2 true _ A20.out).mono ?_); rintro e w' ⟨rfl, ⟨nd, rfl⟩⟩))
                  go_ret
                  exact ⟨by first | rfl | (simp [errW_none, errW_some] <;> rfl) | (simp [*, errW_none, errW_some] <;> rfl), by repeat (first | (with_reducible first | exact HB.out | apply below_alloc | apply pw_below_drewN | apply below_drew1 | refine below_set ?_ GE181.out) | exact HB.out)⟩
              · replace c21 := Bool.eq_false_iff.mpr c21
                subst c21
                have H1 : (some false) = some r := by rw [if_neg (show ¬ (false = true) by decide)] at H; exact H
                clear H
                have H := H1
                clear H1
                obtain rfl := Option.some.inj H
                have hcz25_0 : wr.cell? ⟨gb181, 0, none⟩ = some (.int .i64 a0_0) := (blk_cell BK181.out 0).trans rfl
                have hcz25_1 : wr.cell? ⟨gb181, 1, none⟩ = some (.int .i64 a0_1) := (blk_cell BK181.out 1).trans rfl
                have hcz25_2 : wr.cell? ⟨gb181, 2, none⟩ = some (.int .i64 a0_2) := (blk_cell BK181.out 2).trans rfl
                have hcz25_3 : wr.cell? ⟨gb181, 3, none⟩ = some (.slice A0_3 l0_3.length c0_3) := (blk_cell BK181.out 3).trans rfl
                have hfz25_0 := blk_frozen BK181.out 0
                have hfz25_1 := blk_frozen BK181.out 1
                have hfz25_2 := blk_frozen BK181.out 2
                have hfz25_3 := blk_frozen BK181.out 3
                go_wp2_with (first | (go_at_call 36; (with_reducible refine (trivetref04_replica.calls a0_1 true _ A18.out).mono ?_); rintro e w' ⟨rfl, ⟨nd, rfl⟩⟩) | (go_at_call 37; (with_reducible refine (trivetref04_count.calls a0_2 false _ A20.out).mono ?_); rintro e w' ⟨rfl, ⟨nd, rfl⟩⟩))
                go_ret
                exact ⟨by first | rfl | (simp [errW_none, errW_some] <;> rfl) | (simp [*, errW_none, errW_some] <;> rfl), by repeat (first | (with_reducible first | exact HB.out | apply below_alloc | apply pw_below_drewN | apply below_drew1 | refine below_set ?_ GE181.out) | exact HB.out)⟩
            · replace c19 := Bool.eq_false_iff.mpr c19
              subst c19
              have H1 : (some false) = some r := by rw [if_neg (show ¬ (false = true) by decide)] at H; exact H
              clear H
              have H := H1
              clear H1
              obtain rfl := Option.some.inj H
              have hcz26_0 : wr.cell? ⟨gb181, 0, none⟩ = some (.int .i64 a0_0) := (blk_cell BK181.out 0).trans rfl
              have hcz26_1 : wr.cell? ⟨gb181, 1, none⟩ = some (.int .i64 a0_1) := (blk_cell BK181.out 1).trans rfl
              have hcz26_2 : wr.cell? ⟨gb181, 2, none⟩ = some (.int .i64 a0_2) := (blk_cell BK181.out 2).trans rfl
              have hcz26_3 : wr.cell? ⟨gb181, 3, none⟩ = some (.slice A0_3 l0_3.length c0_3) := (blk_cell BK181.out 3).trans rfl
              have hfz26_0 := blk_frozen BK181.out 0
              have hfz26_1 := blk_frozen BK181.out 1
              have hfz26_2 := blk_frozen BK181.out 2
              have hfz26_3 := blk_frozen BK181.out 3
              go_wp2_with (first | (go_at_call 36; (with_reducible refine (trivetref04_replica.calls a0_1 false _ A18.out).mono ?_); rintro e w' ⟨rfl, ⟨nd, rfl⟩⟩))
              go_ret
              exact ⟨by first | rfl | (simp [errW_none, errW_some] <;> rfl) | (simp [*, errW_none, errW_some] <;> rfl), by repeat (first | (with_reducible first | exact HB.out | apply below_alloc | apply pw_below_drewN | apply below_drew1 | refine below_set ?_ GE181.out) | exact HB.out)⟩
          · rw [if_neg c17] at H
            have c17b0 : (a0_0 == 1) = false := beq_eq_false_iff_ne.mpr c17
            have c17b1 : (a0_0 != 1) = true := bne_iff_ne.mpr c17
            obtain rfl := Option.some.inj H
            have hcz27_0 : wr.cell? ⟨gb181, 0, none⟩ = some (.int .i64 a0_0) := (blk_cell BK181.out 0).trans rfl
            have hcz27_1 : wr.cell? ⟨gb181, 1, none⟩ = some (.int .i64 a0_1) := (blk_cell BK181.out 1).trans rfl
            have hcz27_2 : wr.cell? ⟨gb181, 2, none⟩ = some (.int .i64 a0_2) := (blk_cell BK181.out 2).trans rfl
            have hcz27_3 : wr.cell? ⟨gb181, 3, none⟩ = some (.slice A0_3 l0_3.length c0_3) := (blk_cell BK181.out 3).trans rfl
            have hfz27_0 := blk_frozen BK181.out 0
            have hfz27_1 := blk_frozen BK181.out 1
            have hfz27_2 := blk_frozen BK181.out 2
            have hfz27_3 := blk_frozen BK181.out 3
            go_wp2
            go_ret
            exact ⟨by first | rfl | (simp [errW_none, errW_some] <;> rfl) | (simp [*, errW_none, errW_some] <;> rfl), by repeat (first | (with_reducible first | exact HB.out | apply below_alloc | apply pw_below_drewN | apply below_drew1 | refine below_set ?_ GE181.out) | exact HB.out)⟩

end Go.Proofs.Ytgiefblcckikeaa.G
end

section
/- The reference's entries in plain Lean: SameEntry, MayEntry. -/
set_option maxRecDepth 100000
set_option linter.unusedVariables false
set_option linter.unusedSimpArgs false
namespace Go.Proofs.Ytgiefblcckikeaa.M
open Go.RowKit Go.Proofs.YtgiefblcckikeaaW.PrintWords Go.Proofs.Ytgiefblcckikeaa.G

def mT (t : TxD) : Nat := t.f3.length + t.f4.length + t.f5.length
theorem rdT_eq {a : List TxD} {i : Nat} {x : TxD} (h : a[i]? = some x) : G.rd_T36 a (i : Int) = x := by
  unfold G.rd_T36
  rw [Int.toNat_natCast, List.getD_eq_getElem?_getD, h]
  rfl
theorem rdK_eq {a : List KeyD} {i : Nat} {x : KeyD} (h : a[i]? = some x) : G.rd_T93 a (i : Int) = x := by
  unfold G.rd_T93
  rw [Int.toNat_natCast, List.getD_eq_getElem?_getD, h]
  rfl
theorem sameEn_l : ∀ (k : Nat) (x0 x1 x2 : Int) (a : List TxD) (y0 y1 y2 : Int) (b : List TxD) (i : Nat), (∀ t ∈ a, mT t + a.length + 1 < i + k) → a.length < i + k → i ≤ a.length → a.length = b.length → a.length ≤ 9223372036854775807 → (∀ t ∈ a, TxLe t 9223372036854775807) → G.trivetref04_SameEntry.l0 k (i : Int) x0 x1 x2 a y0 y1 y2 b = some (eqTs (a.drop i) (b.drop i))
  | 0, x0, x1, x2, a, y0, y1, y2, b, i, hf, hk, hi, _, _, _ => by omega
  | k + 1, x0, x1, x2, a, y0, y1, y2, b, i, hf, hk, hi, hl, hm, ht => by
    simp only [G.trivetref04_SameEntry.l0]
    by_cases hlt : i < a.length
    · obtain ⟨x, hx⟩ : ∃ x, a[i]? = some x := ⟨_, List.getElem?_eq_getElem hlt⟩
      obtain ⟨y, hy⟩ : ∃ y, b[i]? = some y := ⟨_, List.getElem?_eq_getElem (by omega)⟩
      have d1 := drop_cons hx
      have d2 := drop_cons hy
      have hw : wrap64 ((i : Int) + 1) = ((i + 1 : Nat) : Int) := by unfold wrap64; omega
      have hxm := List.mem_of_getElem? hx
      have hfx := hf x hxm
      unfold mT at hfx
      rw [if_pos (by omega : (i : Int) < (a.length : Int)), if_pos (by omega : (0 : Int) ≤ (i : Int)), if_pos (by omega : (i : Int) < (b.length : Int)), rdT_eq hx, rdT_eq hy, sameTxn_r k x y (ht x hxm) ⟨by omega, by omega, by omega⟩]
      rw [Option.bind_some, d1, d2]
      cases he : eqTx x y with
      | true =>
        rw [if_pos rfl, hw, sameEn_l k x0 x1 x2 a y0 y1 y2 b (i + 1) (fun t h => by have := hf t h; omega) (by omega) (by omega) hl hm ht]
        simp [eqTs, he]
      | false =>
        rw [if_neg (by simp)]
        simp [eqTs, he]
    · rw [if_neg (by omega), List.drop_of_length_le (by omega), List.drop_of_length_le (by omega)]
      rfl
theorem sameEn_r (k : Nat) (x0 x1 x2 : Int) (a : List TxD) (y0 y1 y2 : Int) (b : List TxD) (hf : ∀ t ∈ a, mT t + a.length + 2 < k) (hk : a.length + 1 < k) (hm : a.length ≤ 9223372036854775807) (ht : ∀ t ∈ a, TxLe t 9223372036854775807) :
    G.trivetref04_SameEntry.f k x0 x1 x2 a y0 y1 y2 b = some (eqEn x0 x1 x2 a y0 y1 y2 b) := by
  obtain ⟨k, rfl⟩ : ∃ j, k = j + 1 := ⟨k - 1, by omega⟩
  unfold G.trivetref04_SameEntry.f eqEn
  by_cases h0 : x0 = y0
  · by_cases h1 : x1 = y1
    · by_cases h2 : x2 = y2
      · rw [if_pos h0, if_pos h1, if_pos h2]
        simp only [G.trivetref04_SameEntry.j0]
        by_cases hl : a.length = b.length
        · have e : ((a.length : Int) != (b.length : Int)) = false := by rw [hl]; simp
          rw [e, if_neg (by simp)]
          have := sameEn_l k x0 x1 x2 a y0 y1 y2 b 0 (fun t h => by have := hf t h; omega) (by omega) (by omega) hl hm ht
          rw [show ((0 : Nat) : Int) = 0 from rfl] at this
          rw [this]
          simp [h0, h1, h2]
        · have e : ((a.length : Int) != (b.length : Int)) = true := by rw [bne_iff_ne]; omega
          rw [e, if_pos rfl, eqTs_len hl]
          simp
      · rw [if_pos h0, if_pos h1, if_neg h2]
        simp [G.trivetref04_SameEntry.j0, h2]
    · rw [if_pos h0, if_neg h1]
      simp [G.trivetref04_SameEntry.j0, h1]
  · rw [if_neg h0]
    simp [G.trivetref04_SameEntry.j0, h0]
theorem less_f (a b : KeyD) : G.trivetref04_Less.f a.f0 a.f1 b.f0 b.f1 = some (kLt (kv a) (kv b)) := by
  unfold G.trivetref04_Less.f kLt kv
  by_cases h : a.f0 < b.f0
  · rw [if_pos h]; simp [h]
  · rw [if_neg h]
    by_cases h1 : a.f0 = b.f0
    · rw [if_pos h1]; simp [h, h1]
    · rw [if_neg h1]; simp [h, h1]
theorem mayK_l : ∀ (k : Nat) (a : List KeyD) (i : Nat), a.length < i + k → i ≤ a.length → a.length ≤ 9223372036854775807 → G.trivetref04_MayKeys.l0 k a ((i + 1 : Nat) : Int) = some (risB (a.drop i) && decide (a.length ≤ 16))
  | 0, a, i, hk, hi, _ => by omega
  | k + 1, a, i, hk, hi, hm => by
    simp only [G.trivetref04_MayKeys.l0]
    have hw0 : wrap64 (((i + 1 : Nat) : Int) - 1) = (i : Int) := by unfold wrap64; omega
    by_cases hlt : i + 1 < a.length
    · obtain ⟨x, hx⟩ : ∃ x, a[i]? = some x := ⟨_, List.getElem?_eq_getElem (by omega)⟩
      obtain ⟨y, hy⟩ : ∃ y, a[i + 1]? = some y := ⟨_, List.getElem?_eq_getElem hlt⟩
      have d1 := drop_cons hx
      have d2 := drop_cons hy
      have hw : wrap64 (((i + 1 : Nat) : Int) + 1) = ((i + 1 + 1 : Nat) : Int) := by unfold wrap64; omega
      rw [hw0, if_pos (by omega : ((i + 1 : Nat) : Int) < (a.length : Int)), if_pos (by omega : (0 : Int) ≤ (i : Int)), if_pos (by omega : (i : Int) < (a.length : Int)), if_pos (by omega : (0 : Int) ≤ ((i + 1 : Nat) : Int)), rdK_eq hx, rdK_eq hy, less_f, Option.bind_some]
      rw [d1, d2]
      unfold risB
      cases he : kLt (kv x) (kv y) with
      | true =>
        rw [if_pos rfl, hw, mayK_l k a (i + 1) (by omega) (by omega) hm, d2, Bool.true_and]
      | false => rw [if_neg (by simp)]; simp
    · rw [if_neg (by omega)]
      have e1 : risB (a.drop i) = true := by
        have hl : (a.drop i).length ≤ 1 := by rw [List.length_drop]; omega
        match h : a.drop i, hl with
        | [], _ => rfl
        | [_], _ => rfl
      rw [e1, Bool.true_and]
      congr 1
      rw [Bool.eq_iff_iff, decide_eq_true_eq, decide_eq_true_eq]
      omega
theorem mayK_r (k : Nat) (a : List KeyD) (hk : a.length < k) (hm : a.length ≤ 9223372036854775807) : G.trivetref04_MayKeys.f k a = some (mayK a) := by
  unfold G.trivetref04_MayKeys.f mayK
  have := mayK_l k a 0 (by omega) (by omega) hm
  rw [show (((0 + 1 : Nat)) : Int) = 1 from rfl] at this
  rw [this, List.drop_zero, Bool.and_comm]
def TxLs (t : TxD) : Prop := t.f2.length ≤ 9223372036854775807 ∧ t.f3.length ≤ 9223372036854775807 ∧ t.f4.length ≤ 9223372036854775807 ∧ t.f5.length ≤ 9223372036854775807
theorem count_f (n : Int) : G.trivetref04_count.f n = some (decide (0 ≤ n) && decide (n ≤ 1099511627776)) := by
  unfold G.trivetref04_count.f
  by_cases h : 0 ≤ n
  · rw [if_pos h, decide_eq_true h, Bool.true_and]
  · rw [if_neg h, decide_eq_false h, Bool.false_and]
theorem mayT_r (k : Nat) (t : TxD) (hk : mT t < k) (hm : TxLs t) : G.trivetref04_MayTxn.f k t.f0 t.f1 t.f2 t.f3 t.f4 t.f5 = some (mayT t) := by
  unfold mT at hk
  obtain ⟨h2, h3, h4, h5⟩ := hm
  unfold G.trivetref04_MayTxn.f mayT inB
  rw [count_f, count_f, mayK_r k t.f4 (by omega) h4, mayK_r k t.f5 (by omega) h5]
  simp only [Option.bind_some, List.all_cons, List.all_nil, Bool.and_true]
  by_cases a0 : 1 ≤ t.f0 ∧ t.f0 ≤ 1099511627776
  · have e0 : (decide (0 ≤ t.f0) && decide (t.f0 ≤ 1099511627776)) = true := by simp; omega
    have e0' : (decide (1 ≤ t.f0) && decide (t.f0 ≤ 1099511627776)) = true := by simp; omega
    rw [e0, e0', if_pos rfl, if_pos (by omega : t.f0 > 0), Bool.true_and]
    by_cases a1 : 1 ≤ t.f1 ∧ t.f1 ≤ 1099511627776
    · have e1 : (decide (0 ≤ t.f1) && decide (t.f1 ≤ 1099511627776)) = true := by simp; omega
      have e1' : (decide (1 ≤ t.f1) && decide (t.f1 ≤ 1099511627776)) = true := by simp; omega
      rw [e1, e1', if_pos rfl, if_pos (by omega : t.f1 > 0), Bool.true_and]
      by_cases a2 : t.f2.length ≤ 512
      · rw [if_pos (by omega), decide_eq_true a2, Bool.true_and]
        by_cases a3 : t.f3.length ≤ 8
        · rw [if_pos (by omega), decide_eq_true a3, Bool.true_and]
          cases mayK t.f4 <;> simp
        · rw [if_neg (by omega), decide_eq_false a3, Bool.false_and]
      · rw [if_neg (by omega), decide_eq_false a2, Bool.false_and]
    · have e1' : (decide (1 ≤ t.f1) && decide (t.f1 ≤ 1099511627776)) = false := by rw [← Bool.not_eq_true]; simp; omega
      rw [e1', Bool.false_and]
      cases e1 : (decide (0 ≤ t.f1) && decide (t.f1 ≤ 1099511627776)) with
      | false => simp
      | true =>
        rw [if_pos rfl, if_neg]
        simp at e1
        omega
  · have e0' : (decide (1 ≤ t.f0) && decide (t.f0 ≤ 1099511627776)) = false := by rw [← Bool.not_eq_true]; simp; omega
    rw [e0', Bool.false_and, Bool.false_and]
    cases e0 : (decide (0 ≤ t.f0) && decide (t.f0 ≤ 1099511627776)) with
    | false => simp
    | true =>
      rw [if_pos rfl, if_neg]
      simp at e0
      omega
theorem mayE_l : ∀ (k : Nat) (x0 x1 x2 : Int) (a : List TxD) (i : Nat), (∀ t ∈ a, mT t + a.length + 1 < i + k) → a.length < i + k → i ≤ a.length → a.length ≤ 9223372036854775807 → (∀ t ∈ a, TxLs t) → G.trivetref04_MayEntry.l0 k (i : Int) x0 x1 x2 a = some ((a.drop i).all mayT && (x0 == 1 && (inB 0 4 [x1] && (inB 0 1099511627776 [x2] && inB 1 16 [(a.length : Int)]))))
  | 0, x0, x1, x2, a, i, hf, hk, hi, _, _ => by omega
  | k + 1, x0, x1, x2, a, i, hf, hk, hi, hm, ht => by
    simp only [G.trivetref04_MayEntry.l0]
    by_cases hlt : i < a.length
    · obtain ⟨x, hx⟩ : ∃ x, a[i]? = some x := ⟨_, List.getElem?_eq_getElem hlt⟩
      have d1 := drop_cons hx
      have hw : wrap64 ((i : Int) + 1) = ((i + 1 : Nat) : Int) := by unfold wrap64; omega
      have hxm := List.mem_of_getElem? hx
      have hfx := hf x hxm
      rw [if_pos (by omega : (i : Int) < (a.length : Int)), if_pos (by omega : (0 : Int) ≤ (i : Int)), rdT_eq hx, mayT_r k x (by omega) (ht x hxm), Option.bind_some, d1, List.all_cons]
      cases he : mayT x with
      | true =>
        rw [if_pos rfl, hw, mayE_l k x0 x1 x2 a (i + 1) (fun t h => by have := hf t h; omega) (by omega) (by omega) hm ht, Bool.true_and]
      | false => rw [if_neg (by simp), Bool.false_and, Bool.false_and]
    · rw [if_neg (by omega), List.drop_of_length_le (by omega)]
      simp only [List.all_nil, Bool.true_and]
      unfold inB G.trivetref04_replica.f
      simp only [List.all_cons, List.all_nil, Bool.and_true]
      by_cases h0 : x0 = 1
      · rw [if_pos h0, count_f, h0]
        simp only [beq_self_eq_true, Bool.true_and]
        by_cases h1 : 0 ≤ x1
        · rw [if_pos h1, decide_eq_true h1, Option.bind_some]
          by_cases h4 : x1 < 5
          · rw [decide_eq_true h4, decide_eq_true (by omega : x1 ≤ 4), if_pos rfl, Option.bind_some, Bool.true_and, Bool.true_and]
            cases (decide (0 ≤ x2) && decide (x2 ≤ 1099511627776)) with
            | true =>
              rw [if_pos rfl, Bool.true_and]
              by_cases h5 : (a.length : Int) ≥ 1
              · rw [if_pos h5, decide_eq_true (by omega : 1 ≤ (a.length : Int)), Bool.true_and]
              · rw [if_neg h5, decide_eq_false (by omega : ¬ 1 ≤ (a.length : Int)), Bool.false_and]
            | false => rw [if_neg (by simp), Bool.false_and]
          · rw [decide_eq_false h4, decide_eq_false (by omega : ¬ x1 ≤ 4), if_neg (by simp)]
            simp
        · rw [if_neg h1, decide_eq_false h1, Option.bind_some, if_neg (by simp)]
          simp
      · rw [if_neg h0]
        have : (x0 == 1) = false := by simpa using h0
        rw [this, Bool.false_and]
theorem mayE_r (k : Nat) (x0 x1 x2 : Int) (a : List TxD) (hf : ∀ t ∈ a, mT t + a.length + 2 < k) (hk : a.length + 1 < k) (hm : a.length ≤ 9223372036854775807) (ht : ∀ t ∈ a, TxLs t) :
    G.trivetref04_MayEntry.f k x0 x1 x2 a = some (mayE x0 x1 x2 a) := by
  unfold G.trivetref04_MayEntry.f mayE
  by_cases h0 : x0 = 0
  · rw [if_pos h0, if_pos h0, sameEn_r k x0 x1 x2 a 0 0 0 [] hf hk (by omega) (fun t h => by have := ht t h; unfold TxLs at this; unfold TxLe; omega), Option.bind_some]
  · rw [if_neg h0, if_neg h0]
    have := mayE_l k x0 x1 x2 a 0 (fun t h => by have := hf t h; omega) (by omega) (by omega) hm ht
    rw [show ((0 : Nat) : Int) = 0 from rfl] at this
    rw [this, List.drop_zero]
    congr 1
    cases a.all mayT <;> simp
end Go.Proofs.Ytgiefblcckikeaa.M
end

section
/- A number's bytes: one form, taken back; bytes behind strOfNums (out of XMForm). -/
set_option maxRecDepth 100000
set_option linter.unusedVariables false
set_option linter.unusedSimpArgs false
namespace Go.Proofs.Ytgiefblcckikeaa.M
open Go.RowKit Go.Proofs.YtgiefblcckikeaaW.PrintWords
open Go.Lib (strOfNums_toList)

theorem lowB_leNum {m : List Int} (h : okB m = true) (hl : m ≠ [] → m.getD (m.length - 1) 0 ≠ 0) : lowB (leNum m).toNat = m := by
  induction m with
  | nil => simp [leNum, lowB_zero]
  | cons b r ih =>
    have hb := okB_rd h 0
    have hr : okB r = true := okB_drop h 1
    have h0 := leNum_nonneg hr
    simp [rd] at hb
    have hl' := hl (by simp)
    by_cases hre : r = []
    · subst hre
      have hb0 : b ≠ 0 := by simpa using hl'
      simp only [leNum]
      rw [lowB_pos (by omega), show (b + 256 * 0).toNat / 256 = 0 from by omega, lowB_zero]
      congr 1
      omega
    · have hlen : 0 < r.length := List.length_pos_iff.2 hre
      have ihr := ih hr (fun _ => by
        rw [List.length_cons, show r.length + 1 - 1 = (r.length - 1) + 1 from by omega, List.getD_cons_succ] at hl'
        exact hl')
      have hpos : (leNum r).toNat ≠ 0 := by
        intro hz
        rw [hz, lowB_zero] at ihr
        exact hre ihr.symm
      simp only [leNum]
      rw [lowB_pos (by omega), show (b + 256 * leNum r).toNat / 256 = (leNum r).toNat from by omega, ihr]
      congr 1
      omega
theorem leNum_lowB (n : Nat) : leNum (lowB n) = n := by
  induction n using Nat.strongRecOn with
  | _ n ih =>
    by_cases h0 : n = 0
    · subst h0; simp [lowB_zero, leNum]
    · rw [lowB_pos h0, leNum, ih (n / 256) (by omega)]
      omega
theorem lowB_ne {n : Nat} (h : n ≠ 0) : lowB n ≠ [] := by rw [lowB_pos h]; simp
theorem lowB_last (n : Nat) (h : n ≠ 0) : (lowB n).getD ((lowB n).length - 1) 0 ≠ 0 := by
  induction n using Nat.strongRecOn with
  | _ n ih =>
    rw [lowB_pos h]
    by_cases h0 : n / 256 = 0
    · rw [h0, lowB_zero]
      simp
      omega
    · have := ih (n / 256) (by omega) h0
      have hlen : 0 < (lowB (n / 256)).length := List.length_pos_iff.2 (lowB_ne h0)
      rw [List.length_cons, show (lowB (n / 256)).length + 1 - 1 = ((lowB (n / 256)).length - 1) + 1 from by omega, List.getD_cons_succ]
      exact this
theorem rd_cons0 (b : Int) (r : List Int) : rd (b :: r) 0 = b := rfl
theorem rd_consS (b : Int) (r : List Int) (j : Nat) (h : 0 < j) : rd (b :: r) (j : Int) = r.getD (j - 1) 0 := by
  unfold rd
  rw [Int.toNat_natCast, show j = (j - 1) + 1 from by omega, List.getD_cons_succ]
  rfl
/-- What is taken as a number, put again, is the bytes that it had. -/
theorem form_one {l : List Int} (h : okB l = true) (he : tkE l = 0) : numB (tkN l) = l.take (tkS l).toNat ∧ isI64 (tkN l) := by
  unfold tkE at he
  split at he
  · omega
  rename_i hne
  split at he
  · omega
  rename_i h1
  split at he
  · omega
  rename_i h2
  split at he
  · omega
  rename_i h3
  split at he
  · omega
  rename_i h4
  obtain ⟨b, r, rfl⟩ : ∃ b r, l = b :: r := by cases l with | nil => exact absurd rfl hne | cons b r => exact ⟨b, r, rfl⟩
  have hb := okB_rd h 0
  have hr : okB r = true := okB_drop h 1
  rw [rd_cons0] at hb h1 h4
  have hK : tkK (b :: r) = (b / 2).toNat := rfl
  have hU : tkU (b :: r) = leNum (r.take (tkK (b :: r))) := rfl
  generalize hKe : tkK (b :: r) = K at *
  have hokm : okB (r.take K) = true := okB_take hr K
  have hml : (r.take K).length = K := by rw [List.length_take]; simp at h2; omega
  have hu0 := leNum_nonneg hokm
  have hlow : lowB (leNum (r.take K)).toNat = r.take K := lowB_leNum hokm (fun hm => by
    have hKp : 0 < K := by
      rcases Nat.eq_zero_or_pos K with hz | hp
      · subst hz; simp at hm
      · exact hp
    have h5 : rd (b :: r) (K : Int) ≠ 0 := fun hz => h3 ⟨hKp, hz⟩
    rw [rd_consS b r K hKp] at h5
    rw [hml]
    simp only [List.getD_eq_getElem?_getD, List.getElem?_take] at h5 ⊢
    rw [if_pos (by omega)]
    exact h5)
  generalize hUe : leNum (r.take K) = U at *
  rw [hU] at h4
  unfold big63 at h4
  have hpos : b % 2 = 1 → 0 < U := fun hodd => by
    have hKp : 0 < K := by omega
    rcases Int.lt_or_le 0 U with hp | hz
    · exact hp
    · have : U.toNat = 0 := by omega
      rw [this, lowB_zero] at hlow
      rw [← hlow] at hml
      simp at hml
      omega
  have hN : tkN (b :: r) = if b % 2 = 1 then -U else U := by
    unfold tkN
    rw [hU, rd_cons0]
    split
    · have := hpos (by assumption)
      unfold wrap64; omega
    · rfl
  have hS : (tkS (b :: r)).toNat = K + 1 := by unfold tkS; rw [hKe]; omega
  rw [hN, hS, List.take_succ_cons]
  by_cases hodd : b % 2 = 1
  · rw [if_pos hodd]
    have := hpos hodd
    unfold numB mag isI64
    rw [show (-U).natAbs = U.toNat from by omega, hlow, hml, if_pos (by omega)]
    refine ⟨?_, by omega, by omega⟩
    congr 1
    omega
  · rw [if_neg hodd]
    unfold numB mag isI64
    rw [show U.natAbs = U.toNat from by omega, hlow, hml, if_neg (by omega)]
    refine ⟨?_, by omega, by omega⟩
    congr 1
    omega
/-- A number's bytes are taken as it was, whatever stands behind. -/
theorem form_back {n : Int} (h : isI64 n) (rest : List Int) : tkE (numB n ++ rest) = 0 ∧ tkN (numB n ++ rest) = n ∧ tkS (numB n ++ rest) = ((numB n).length : Int) := by
  have h8 := lowB_len _ 8 (mag_lt h)
  have hU0 := leNum_lowB (mag n)
  have hlast := lowB_last (mag n)
  have hz : mag n = 0 → (lowB (mag n)).length = 0 := fun hz => by rw [hz, lowB_zero]; rfl
  have hnz : mag n ≠ 0 → 0 < (lowB (mag n)).length := fun h0 => List.length_pos_iff.2 (lowB_ne h0)
  unfold numB
  have hm : mag n = n.natAbs := rfl
  unfold isI64 at h
  generalize hL : lowB (mag n) = L at *
  generalize hB : (2 * (L.length : Int) + if n < 0 then 1 else 0) = b
  have hb : b = 2 * (L.length : Int) + 1 ∧ n < 0 ∨ b = 2 * (L.length : Int) ∧ 0 ≤ n := by
    rw [← hB]; split <;> omega
  clear hB
  have hK : tkK (b :: L ++ rest) = L.length := by
    unfold tkK
    rw [List.cons_append, rd_cons0]
    omega
  have hU : tkU (b :: L ++ rest) = (mag n : Int) := by
    unfold tkU
    rw [hK, ← hU0]
    simp
  have hr0 : rd (b :: L ++ rest) 0 = b := rfl
  refine ⟨?_, ?_, ?_⟩
  · unfold tkE
    rw [hK, hU, hr0, if_neg (by simp), if_neg (by omega), if_neg (by simp; omega), if_neg, if_neg]
    · unfold big63; omega
    · rintro ⟨h1, h2⟩
      have h3 := hlast (by intro h0; have := hz h0; omega)
      rw [List.cons_append, rd_consS _ _ _ h1] at h2
      apply h3
      rw [List.getD_eq_getElem?_getD] at h2 ⊢
      rw [List.getElem?_append_left (by omega)] at h2
      exact h2
  · unfold tkN
    rw [hU, hr0]
    split
    · unfold wrap64; omega
    · omega
  · unfold tkS
    rw [hK]
    simp

theorem bytesOf_inj {a b : List Int} (ha : okB a = true) (hb : okB b = true) (h : (strOfNums a).toList = (strOfNums b).toList) : a = b := by
  rw [strOfNums_toList, strOfNums_toList] at h
  unfold Go.Lib.bytesOf at h
  induction a generalizing b with
  | nil => cases b with | nil => rfl | cons y b => simp at h
  | cons x a ih =>
    cases b with
    | nil => simp at h
    | cons y b =>
      simp only [List.map_cons, List.cons.injEq] at h
      have h1 := okB_rd ha 0
      have h2 := okB_rd hb 0
      rw [rd_cons0] at h1 h2
      have h3 := congrArg UInt8.toNat h.1
      simp only [UInt8.toNat_ofNat'] at h3
      rw [ih (okB_drop ha 1) (okB_drop hb 1) h.2]
      congr 1
      omega
end Go.Proofs.Ytgiefblcckikeaa.M
end

section
-- Written by a program of this session's (wip/gprint.py over the kit's printer).
namespace Go.Proofs.Ytgiefblcckikeaa.G
open Go.RowKit Go.Proofs.YtgiefblcckikeaaW.PrintWords Go.Proofs.YtgiefblcckikeaaW.PrintLast Go.Proofs.YtgiefblcckikeaaW.PrintMore
attribute [local go_sem] max2_int min2_int max_two min_two max_three min_three max_four min_four   -- for this text's walks alone
set_option linter.unusedVariables false
set_option linter.unusedSimpArgs false

/-! ### trivetlaw04_RecordApart: function 3 -/
def trivetlaw04_RecordApart.j0 : Nat → List Int → Int → List Int → Int → Bool → Int → Int → Int → List (S36) → Int → Int → Int → List (S36) → Option (Bool)
  | 0, _, _, _, _, _, _, _, _, _, _, _, _, _ => none
  | k + 1, x5, x6, x7, x8, x26, x188000, x188001, x188002, x188003, x189000, x189001, x189002, x189003 => if x26 = true then (if x6 = 0 then (if x8 = 0 then (some true) else (if x8 = 3 then (some true) else ((trivetref04_MayEntry.f k x189000 x189001 x189002 x189003).bind fun t198 => (some (!t198))))) else (if x6 = 3 then (if x8 = 0 then (some true) else (if x8 = 3 then (some true) else ((trivetref04_MayEntry.f k x189000 x189001 x189002 x189003).bind fun t199 => (some (!t199))))) else ((trivetref04_MayEntry.f k x188000 x188001 x188002 x188003).bind fun t200 => (if t200 = true then (some false) else (if x8 = 0 then (some true) else (if x8 = 3 then (some true) else ((trivetref04_MayEntry.f k x189000 x189001 x189002 x189003).bind fun t201 => (some (!t201))))))))) else ((trivetref04_SameEntry.f k x188000 x188001 x188002 x188003 x189000 x189001 x189002 x189003).bind fun t202 => ((bytes_Equal.f x5 x7).bind fun t203 => (some (t202 == t203))))
def trivetlaw04_RecordApart.f (k : Nat) (a0_0 : Int) (a0_1 : Int) (a0_2 : Int) (l0_3 : List (S36)) (a1_0 : Int) (a1_1 : Int) (a1_2 : Int) (l1_3 : List (S36)) : Option (Bool) := (trivetlaw04_begun.f k).bind fun t189 => (if t189 = true then ((record_Entry.f a0_0 a0_1 a0_2 l0_3).bind fun bt190 => ((record_Entry.f a1_0 a1_1 a1_2 l1_3).bind fun bt194 => (if bt190.2 = 0 then (trivetlaw04_RecordApart.j0 k bt190.1 bt190.2 bt194.1 bt194.2 (bt194.2 != 0) a0_0 a0_1 a0_2 l0_3 a1_0 a1_1 a1_2 l1_3) else (trivetlaw04_RecordApart.j0 k bt190.1 bt190.2 bt194.1 bt194.2 true a0_0 a0_1 a0_2 l0_3 a1_0 a1_1 a1_2 l1_3)))) else (some false))
theorem trivetlaw04_RecordApart.mono_l : ∀ k, (∀ y0 y1 y2 y3 y4 y5 y6 y7 y8 y9 y10 y11 y12, LeO (trivetlaw04_RecordApart.j0 k y0 y1 y2 y3 y4 y5 y6 y7 y8 y9 y10 y11 y12) (trivetlaw04_RecordApart.j0 (k + 1) y0 y1 y2 y3 y4 y5 y6 y7 y8 y9 y10 y11 y12))
  | 0 => fun _ _ _ _ _ _ _ _ _ _ _ _ _ r h => by simp [trivetlaw04_RecordApart.j0] at h
  | k + 1 => by
    have ih0 := trivetlaw04_RecordApart.mono_l k
    · intro y0 y1 y2 y3 y4 y5 y6 y7 y8 y9 y10 y11 y12
      unfold trivetlaw04_RecordApart.j0
      repeat' first
      | (with_reducible exact ih0 _ _ _ _ _ _ _ _ _ _ _ _ _)
      | (with_reducible exact trivetlaw04_begun.mono _)
      | (with_reducible exact trivetref04_MayEntry.mono _ _ _ _ _)
      | (with_reducible exact trivetref04_SameEntry.mono _ _ _ _ _ _ _ _ _)
      | (with_reducible exact LeO.refl _)
      | (with_reducible exact LeO.none _)
      | (with_reducible refine LeO.ite ?_ ?_)
      | (with_reducible refine LeO.bind ?_ (fun _ => ?_))
      | exact ih0 _ _ _ _ _ _ _ _ _ _ _ _ _
      | exact trivetlaw04_begun.mono _
      | exact trivetref04_MayEntry.mono _ _ _ _ _
      | exact trivetref04_SameEntry.mono _ _ _ _ _ _ _ _ _
      | exact LeO.none _
      | refine LeO.ite ?_ ?_
      | refine LeO.bind ?_ (fun _ => ?_)
theorem trivetlaw04_RecordApart.mono : ∀ a0 a1 a2 a3 a4 a5 a6 a7 k, LeO (trivetlaw04_RecordApart.f k a0 a1 a2 a3 a4 a5 a6 a7) (trivetlaw04_RecordApart.f (k + 1) a0 a1 a2 a3 a4 a5 a6 a7) := by
  intro a0 a1 a2 a3 a4 a5 a6 a7 k
  have ih0 := trivetlaw04_RecordApart.mono_l k
  unfold trivetlaw04_RecordApart.f
  repeat' first
      | (with_reducible exact ih0 _ _ _ _ _ _ _ _ _ _ _ _ _)
      | (with_reducible exact trivetlaw04_begun.mono _)
      | (with_reducible exact trivetref04_MayEntry.mono _ _ _ _ _)
      | (with_reducible exact trivetref04_SameEntry.mono _ _ _ _ _ _ _ _ _)
      | (with_reducible exact LeO.refl _)
      | (with_reducible exact LeO.none _)
      | (with_reducible refine LeO.ite ?_ ?_)
      | (with_reducible refine LeO.bind ?_ (fun _ => ?_))
      | exact ih0 _ _ _ _ _ _ _ _ _ _ _ _ _
      | exact trivetlaw04_begun.mono _
      | exact trivetref04_MayEntry.mono _ _ _ _ _
      | exact trivetref04_SameEntry.mono _ _ _ _ _ _ _ _ _
      | exact LeO.none _
      | refine LeO.ite ?_ ?_
      | refine LeO.bind ?_ (fun _ => ?_)
set_option maxHeartbeats 8000000 in
set_option maxRecDepth 100000 in
theorem trivetlaw04_RecordApart.calls (k : Nat) (a0_0 : Int) (a0_1 : Int) (a0_2 : Int) (A0_3 : Option Addr) (c0_3 : Nat) (l0_3 : List (S36)) (a1_0 : Int) (a1_1 : Int) (a1_2 : Int) (A1_3 : Option Addr) (c1_3 : Nat) (l1_3 : List (S36)) (r : Bool) (w : World) (hr0_3 : Kd.C k36 w A0_3 l0_3.length l0_3) (hc0_3 : l0_3.length ≤ c0_3) (hr1_3 : Kd.C k36 w A1_3 l1_3.length l1_3) (hc1_3 : l1_3.length ≤ c1_3) (h : trivetlaw04_RecordApart.f k a0_0 a0_1 a0_2 l0_3 a1_0 a1_1 a1_2 l1_3 = some r) :
    Calls Try.prog 3 #[.agg #[.int .i64 a0_0, .int .i64 a0_1, .int .i64 a0_2, .slice A0_3 l0_3.length c0_3], .agg #[.int .i64 a1_0, .int .i64 a1_1, .int .i64 a1_2, .slice A1_3 l1_3.length c1_3]] w fun e w' => e = .returned (.bool r) ∧ Below w.heap.size w w' := by
  have hu24 := Try.underlying24
  have HR0_3 := Aside0.mk hr0_3
  have HC0_3 := Aside0.mk hc0_3
  clear hr0_3 hc0_3
  have HR1_3 := Aside0.mk hr1_3
  have HC1_3 := Aside0.mk hc1_3
  clear hr1_3 hc1_3
  have HB := Aside0.mk (Below.refl w.heap.size w)
  have H : ((trivetlaw04_begun.f k).bind fun t189 => (if t189 = true then ((record_Entry.f a0_0 a0_1 a0_2 l0_3).bind fun bt190 => ((record_Entry.f a1_0 a1_1 a1_2 l1_3).bind fun bt194 => (if bt190.2 = 0 then (trivetlaw04_RecordApart.j0 k bt190.1 bt190.2 bt194.1 bt194.2 (bt194.2 != 0) a0_0 a0_1 a0_2 l0_3 a1_0 a1_1 a1_2 l1_3) else (trivetlaw04_RecordApart.j0 k bt190.1 bt190.2 bt194.1 bt194.2 true a0_0 a0_1 a0_2 l0_3 a1_0 a1_1 a1_2 l1_3)))) else (some false))) = some r := h
  clear h
  replace H := Option.bind_eq_some_iff.mp H
  obtain ⟨t189, A30, H⟩ := H
  replace H : (if t189 = true then ((record_Entry.f a0_0 a0_1 a0_2 l0_3).bind fun bt190 => ((record_Entry.f a1_0 a1_1 a1_2 l1_3).bind fun bt194 => (if bt190.2 = 0 then (trivetlaw04_RecordApart.j0 k bt190.1 bt190.2 bt194.1 bt194.2 (bt194.2 != 0) a0_0 a0_1 a0_2 l0_3 a1_0 a1_1 a1_2 l1_3) else (trivetlaw04_RecordApart.j0 k bt190.1 bt190.2 bt194.1 bt194.2 true a0_0 a0_1 a0_2 l0_3 a1_0 a1_1 a1_2 l1_3)))) else (some false)) = some r := H
  have A3 := Aside0.mk A30
  clear A30
  by_cases c4 : t189 = true
  · subst c4
    have H1 : ((record_Entry.f a0_0 a0_1 a0_2 l0_3).bind fun bt190 => ((record_Entry.f a1_0 a1_1 a1_2 l1_3).bind fun bt194 => (if bt190.2 = 0 then (trivetlaw04_RecordApart.j0 k bt190.1 bt190.2 bt194.1 bt194.2 (bt194.2 != 0) a0_0 a0_1 a0_2 l0_3 a1_0 a1_1 a1_2 l1_3) else (trivetlaw04_RecordApart.j0 k bt190.1 bt190.2 bt194.1 bt194.2 true a0_0 a0_1 a0_2 l0_3 a1_0 a1_1 a1_2 l1_3)))) = some r := by rw [if_pos rfl] at H; exact H
    clear H
    have H := H1
    clear H1
    replace H := Option.bind_eq_some_iff.mp H
    obtain ⟨⟨t190, t193⟩, A50, H⟩ := H
    replace H : ((record_Entry.f a1_0 a1_1 a1_2 l1_3).bind fun bt194 => (if t193 = 0 then (trivetlaw04_RecordApart.j0 k t190 t193 bt194.1 bt194.2 (bt194.2 != 0) a0_0 a0_1 a0_2 l0_3 a1_0 a1_1 a1_2 l1_3) else (trivetlaw04_RecordApart.j0 k t190 t193 bt194.1 bt194.2 true a0_0 a0_1 a0_2 l0_3 a1_0 a1_1 a1_2 l1_3))) = some r := H
    have A5 := Aside0.mk A50
    clear A50
    replace H := Option.bind_eq_some_iff.mp H
    obtain ⟨⟨t194, t197⟩, A60, H⟩ := H
    replace H : (if t193 = 0 then (trivetlaw04_RecordApart.j0 k t190 t193 t194 t197 (t197 != 0) a0_0 a0_1 a0_2 l0_3 a1_0 a1_1 a1_2 l1_3) else (trivetlaw04_RecordApart.j0 k t190 t193 t194 t197 true a0_0 a0_1 a0_2 l0_3 a1_0 a1_1 a1_2 l1_3)) = some r := H
    have A6 := Aside0.mk A60
    clear A60
    have HC7 := Aside0.mk H
    clear H
    go_enter Try.func3, Try.ntmps3
    go_upto_region 5 with (first | ((with_reducible refine gate_dst (N := 2) rfl ?_); refine box_event ?hg (N := 2) ?hd (cs := #[.int .i64 a0_0, .int .i64 a0_1, .int .i64 a0_2, .slice A0_3 l0_3.length c0_3]) (t := 24) ?hr ?_; (case hd => rfl); (case hg => rfl); (case hr => first | (go_simp; done) | (go_simp; rfl)); intro gb187 hg w8 hbox hb; have n0_ := Aside0.mk (below_step (by repeat (first | (with_reducible first | exact HB.out | apply below_alloc | apply pw_below_drewN | apply below_drew1) | exact HB.out)) hb); have n1_ := Aside0.mk (hbox); have n2_ := Aside0.mk ((by rw [hg]; exact (below_size (by repeat (first | (with_reducible first | exact HB.out | apply below_alloc | apply pw_below_drewN | apply below_drew1) | exact HB.out))) : w.heap.size ≤ gb187)); have n3_ := Aside0.mk ((by rw [hg]; exact (below_size (by repeat (first | (with_reducible first | exact HB.out | apply below_alloc | apply pw_below_drewN | apply below_drew1) | exact HB.out))) : w.heap.size ≤ gb187)); clear HB; have HB := n0_; have BK187 := n1_; have GW187 := n2_; have GE187 := n3_; clear n0_ n1_ n2_ n3_; clear hb hbox hg) | ((with_reducible refine gate_dst (N := 3) rfl ?_); refine box_event ?hg (N := 3) ?hd (cs := #[.int .i64 a1_0, .int .i64 a1_1, .int .i64 a1_2, .slice A1_3 l1_3.length c1_3]) (t := 24) ?hr ?_; (case hd => rfl); (case hg => rfl); (case hr => first | (go_simp; done) | (go_simp; rfl)); intro gb188 hg w9 hbox hb; have n0_ := Aside0.mk (blk_below (g := gb187) (o := .cells #[.int .i64 a0_0, .int .i64 a0_1, .int .i64 a0_2, .slice A0_3 l0_3.length c0_3] 24 (0, 0)) (by (with_reducible repeat (first | refine blk_drewN ?_ _ | refine blk_drew ?_ | refine blk_alloc ?_ _)); exact BK187.out) hb); have n1_ := Aside0.mk (below_step (by repeat (first | (with_reducible first | exact HB.out | apply below_alloc | apply pw_below_drewN | apply below_drew1 | refine below_set ?_ GE187.out) | exact HB.out)) hb); have n2_ := Aside0.mk (hbox); have n3_ := Aside0.mk ((by rw [hg]; exact (below_size (by repeat (first | (with_reducible first | exact HB.out | apply below_alloc | apply pw_below_drewN | apply below_drew1 | refine below_set ?_ GE187.out) | exact HB.out))) : w.heap.size ≤ gb188)); have n4_ := Aside0.mk ((by rw [hg]; exact (below_size (by repeat (first | (with_reducible first | exact HB.out | apply below_alloc | apply pw_below_drewN | apply below_drew1 | refine below_set ?_ GE187.out) | exact HB.out))) : w.heap.size ≤ gb188)); have n5_ := Aside0.mk ((by rw [hg]; exact Nat.ne_of_lt (blk_lt (g := gb187) (o := .cells #[.int .i64 a0_0, .int .i64 a0_1, .int .i64 a0_2, .slice A0_3 l0_3.length c0_3] 24 (0, 0)) (by (with_reducible repeat (first | refine blk_drewN ?_ _ | refine blk_drew ?_ | refine blk_alloc ?_ _)); exact BK187.out)) : gb187 ≠ gb188)); have n6_ := Aside0.mk ((by rw [hg]; exact Nat.ne_of_gt (blk_lt (g := gb187) (o := .cells #[.int .i64 a0_0, .int .i64 a0_1, .int .i64 a0_2, .slice A0_3 l0_3.length c0_3] 24 (0, 0)) (by (with_reducible repeat (first | refine blk_drewN ?_ _ | refine blk_drew ?_ | refine blk_alloc ?_ _)); exact BK187.out)) : gb188 ≠ gb187)); clear BK187; clear HB; have BK187 := n0_; have HB := n1_; have BK188 := n2_; have GW188 := n3_; have GE188 := n4_; have NB187_188 := n5_; have NB188_187 := n6_; clear n0_ n1_ n2_ n3_ n4_ n5_ n6_; clear hb hbox hg) | ((with_reducible refine gate_callee (f := 7) rfl ?_); refine goesL_ (some 9) rfl rfl Try.func7 (by kernel_rfl) rfl #[] rfl (by (try simp only [List.map_toArray, List.map_cons, List.map_nil]); first | done | rfl | (simp only [List.length_drop, List.length_take]; rfl)) ?_; (with_reducible refine (trivetlaw04_begun.calls k  true _ A3.out).mono ?_); rintro e w10 ⟨rfl, hb⟩; refine ⟨_, rfl, ?_⟩; have n0_ := Aside0.mk (blk_below (g := gb187) (o := .cells #[.int .i64 a0_0, .int .i64 a0_1, .int .i64 a0_2, .slice A0_3 l0_3.length c0_3] 24 (0, 0)) (by (with_reducible repeat (first | refine blk_drewN ?_ _ | refine blk_drew ?_ | refine blk_alloc ?_ _)); exact BK187.out) hb); have n1_ := Aside0.mk (blk_below (g := gb188) (o := .cells #[.int .i64 a1_0, .int .i64 a1_1, .int .i64 a1_2, .slice A1_3 l1_3.length c1_3] 24 (0, 0)) (by (with_reducible repeat (first | refine blk_drewN ?_ _ | refine blk_drew ?_ | refine blk_alloc ?_ _)); exact BK188.out) hb); have n2_ := Aside0.mk (below_step (by repeat (first | (with_reducible first | exact HB.out | apply below_alloc | apply pw_below_drewN | apply below_drew1 | refine below_set ?_ GE187.out | refine below_set ?_ GE188.out) | exact HB.out)) hb); clear BK187; clear BK188; clear HB; have BK187 := n0_; have BK188 := n1_; have HB := n2_; clear n0_ n1_ n2_; (try clear hb); (try clear hb2); (try clear hk); (try clear hi); have hnb11 := NB187_188.out; have hnc11 := NB188_187.out; have hcz12_0 : w10.cell? ⟨gb187, 0, none⟩ = some (.int .i64 a0_0) := (blk_cell BK187.out 0).trans rfl; have hcz12_1 : w10.cell? ⟨gb187, 1, none⟩ = some (.int .i64 a0_1) := (blk_cell BK187.out 1).trans rfl; have hcz12_2 : w10.cell? ⟨gb187, 2, none⟩ = some (.int .i64 a0_2) := (blk_cell BK187.out 2).trans rfl; have hcz12_3 : w10.cell? ⟨gb187, 3, none⟩ = some (.slice A0_3 l0_3.length c0_3) := (blk_cell BK187.out 3).trans rfl; have hfz12_0 := blk_frozen BK187.out 0; have hfz12_1 := blk_frozen BK187.out 1; have hfz12_2 := blk_frozen BK187.out 2; have hfz12_3 := blk_frozen BK187.out 3) | ((with_reducible refine gate_callee (f := 8) rfl ?_); refine goesL_ (some 13) rfl rfl Try.func8 (by kernel_rfl) rfl #[.agg #[.int .i64 a0_0, .int .i64 a0_1, .int .i64 a0_2, .slice A0_3 l0_3.length c0_3]] rfl (by (try simp only [List.map_toArray, List.map_cons, List.map_nil]); first | done | rfl | (simp only [List.length_drop, List.length_take]; rfl)) ?_; (with_reducible refine (record_Entry.calls a0_0 a0_1 a0_2 _ _ l0_3 t190 t193 _ ?side1 ?side2 A5.out).mono ?_); (case side1 => repeat (first | exact (Kd.C_below HR0_3.out HB.out) | (with_reducible refine Kd.C_alloc ?_ _) | (with_reducible refine Kd.C_drewN ?_ _) | (with_reducible refine Kd.C_drew ?_))); (case side2 => exact HC0_3.out); rintro e w13 ⟨v191, rfl, ho0, hb⟩; refine ⟨_, rfl, ?_⟩; have n0_ := Aside0.mk (Kd.R_lower ho0 (below_size (by repeat (first | (with_reducible first | exact HB.out | apply below_alloc | apply pw_below_drewN | apply below_drew1 | refine below_set ?_ GE187.out | refine below_set ?_ GE188.out) | exact HB.out)))); have n1_ := Aside0.mk (blk_below (g := gb187) (o := .cells #[.int .i64 a0_0, .int .i64 a0_1, .int .i64 a0_2, .slice A0_3 l0_3.length c0_3] 24 (0, 0)) (by (with_reducible repeat (first | refine blk_drewN ?_ _ | refine blk_drew ?_ | refine blk_alloc ?_ _)); exact BK187.out) hb); have n2_ := Aside0.mk (blk_below (g := gb188) (o := .cells #[.int .i64 a1_0, .int .i64 a1_1, .int .i64 a1_2, .slice A1_3 l1_3.length c1_3] 24 (0, 0)) (by (with_reducible repeat (first | refine blk_drewN ?_ _ | refine blk_drew ?_ | refine blk_alloc ?_ _)); exact BK188.out) hb); have n3_ := Aside0.mk (below_step (by repeat (first | (with_reducible first | exact HB.out | apply below_alloc | apply pw_below_drewN | apply below_drew1 | refine below_set ?_ GE187.out | refine below_set ?_ GE188.out) | exact HB.out)) hb); clear BK187; clear BK188; clear HB; have HO192 := n0_; have BK187 := n1_; have BK188 := n2_; have HB := n3_; clear n0_ n1_ n2_ n3_; (try clear hb); (try clear hb2); (try clear hk); (try clear hi); (try clear ho0); have hcz14_0 : w13.cell? ⟨gb188, 0, none⟩ = some (.int .i64 a1_0) := (blk_cell BK188.out 0).trans rfl; have hcz14_1 : w13.cell? ⟨gb188, 1, none⟩ = some (.int .i64 a1_1) := (blk_cell BK188.out 1).trans rfl; have hcz14_2 : w13.cell? ⟨gb188, 2, none⟩ = some (.int .i64 a1_2) := (blk_cell BK188.out 2).trans rfl; have hcz14_3 : w13.cell? ⟨gb188, 3, none⟩ = some (.slice A1_3 l1_3.length c1_3) := (blk_cell BK188.out 3).trans rfl; have hfz14_0 := blk_frozen BK188.out 0; have hfz14_1 := blk_frozen BK188.out 1; have hfz14_2 := blk_frozen BK188.out 2; have hfz14_3 := blk_frozen BK188.out 3) | ((with_reducible refine gate_callee (f := 8) rfl ?_); refine goesL_ (some 18) rfl rfl Try.func8 (by kernel_rfl) rfl #[.agg #[.int .i64 a1_0, .int .i64 a1_1, .int .i64 a1_2, .slice A1_3 l1_3.length c1_3]] rfl (by (try simp only [List.map_toArray, List.map_cons, List.map_nil]); first | done | rfl | (simp only [List.length_drop, List.length_take]; rfl)) ?_; (with_reducible refine (record_Entry.calls a1_0 a1_1 a1_2 _ _ l1_3 t194 t197 _ ?side1 ?side2 A6.out).mono ?_); (case side1 => repeat (first | exact (Kd.C_below HR1_3.out HB.out) | (with_reducible refine Kd.C_alloc ?_ _) | (with_reducible refine Kd.C_drewN ?_ _) | (with_reducible refine Kd.C_drew ?_))); (case side2 => exact HC1_3.out); rintro e w15 ⟨v195, rfl, ho0, hb⟩; refine ⟨_, rfl, ?_⟩; have n0_ := Aside0.mk (Kd.R_elder' (by (with_reducible repeat (first | apply Kd.R_alloc | apply Kd.R_drewN | apply Kd.R_drew)); exact HO192.out) (Kd.R_base ho0) hb); have n1_ := Aside0.mk (Kd.R_lower (Kd.R_new' ho0 (Kd.R_lt (by (with_reducible repeat (first | apply Kd.R_alloc | apply Kd.R_drewN | apply Kd.R_drew)); exact HO192.out))) (below_size (by repeat (first | (with_reducible first | exact HB.out | apply below_alloc | apply pw_below_drewN | apply below_drew1 | refine below_set ?_ GE187.out | refine below_set ?_ GE188.out) | exact HB.out)))); have n2_ := Aside0.mk (blk_below (g := gb187) (o := .cells #[.int .i64 a0_0, .int .i64 a0_1, .int .i64 a0_2, .slice A0_3 l0_3.length c0_3] 24 (0, 0)) (by (with_reducible repeat (first | refine blk_drewN ?_ _ | refine blk_drew ?_ | refine blk_alloc ?_ _)); exact BK187.out) hb); have n3_ := Aside0.mk (blk_below (g := gb188) (o := .cells #[.int .i64 a1_0, .int .i64 a1_1, .int .i64 a1_2, .slice A1_3 l1_3.length c1_3] 24 (0, 0)) (by (with_reducible repeat (first | refine blk_drewN ?_ _ | refine blk_drew ?_ | refine blk_alloc ?_ _)); exact BK188.out) hb); have n4_ := Aside0.mk (below_step (by repeat (first | (with_reducible first | exact HB.out | apply below_alloc | apply pw_below_drewN | apply below_drew1 | refine below_set ?_ GE187.out | refine below_set ?_ GE188.out) | exact HB.out)) hb); clear HO192; clear BK187; clear BK188; clear HB; have HO192 := n0_; have HO196 := n1_; have BK187 := n2_; have BK188 := n3_; have HB := n4_; clear n0_ n1_ n2_ n3_ n4_; (try clear hb); (try clear hb2); (try clear hk); (try clear hi); (try clear ho0)))
    (try simp only [Act.put, List.setIfInBounds_toArray, List.set_cons_zero, List.set_cons_succ])
    go_cut [26] (fun v26 wc => ∃ (kq : Nat) (x26_6 : Bool), v26 = .bool x26_6 ∧ Aside0 (trivetlaw04_RecordApart.j0 kq t190 t193 t194 t197 x26_6 a0_0 a0_1 a0_2 l0_3 a1_0 a1_1 a1_2 l1_3 = some r) ∧ Aside0 (kq ≤ k) ∧ Aside0 (Kd.R (Kd.int .u8) 5 wc w.heap.size (fun k_ => some k_ ≠ (v195 : Value).ownBlock) v191 t190) ∧ Aside0 (Kd.R (Kd.int .u8) 5 wc w.heap.size (fun k_ => some k_ ≠ (v191 : Value).ownBlock) v195 t194) ∧ Aside0 (wc.heap[gb187]? = some (.cells #[.int .i64 a0_0, .int .i64 a0_1, .int .i64 a0_2, (.slice A0_3 l0_3.length c0_3)] 24 (0, 0))) ∧ Aside0 (wc.heap[gb188]? = some (.cells #[.int .i64 a1_0, .int .i64 a1_1, .int .i64 a1_2, (.slice A1_3 l1_3.length c1_3)] 24 (0, 0))) ∧ Aside0 (Below w.heap.size w wc))
    case first =>
      have H := HC7.out
      clear HC7
      by_cases c16 : t193 = 0
      · rw [if_pos c16] at H
        have c16b0 : (t193 == 0) = true := beq_iff_eq.mpr c16
        have c16b1 : (t193 != 0) = false := bne_eq_false_iff_eq.mpr c16
        clear c16
        (first | rw [c16b0] | (simp only [i64_w, i32_w]; rw [c16b0]) | skip)
        have H' := Aside0.mk H
        clear H
        go_wp2
        go_meet
        case rel => exact ⟨_, ((t197 != 0)), (by first | rfl | (simp; done) | (simp [*]; done)), H', ⟨by first | omega | exact Nat.le_refl _⟩, ⟨by (with_reducible repeat (first | apply Kd.R_alloc | apply Kd.R_drewN | apply Kd.R_drew)); exact Kd.R_mono HO192.out (fun _ hk => hk.2)⟩, ⟨by (with_reducible repeat (first | apply Kd.R_alloc | apply Kd.R_drewN | apply Kd.R_drew)); exact Kd.R_mono HO196.out (fun _ hk => hk.2)⟩, ⟨by (with_reducible repeat (first | refine blk_drewN ?_ _ | refine blk_drew ?_ | refine blk_alloc ?_ _)); exact BK187.out⟩, ⟨by (with_reducible repeat (first | refine blk_drewN ?_ _ | refine blk_drew ?_ | refine blk_alloc ?_ _)); exact BK188.out⟩, ⟨by repeat (first | (with_reducible first | exact HB.out | apply below_alloc | apply pw_below_drewN | apply below_drew1 | refine below_set ?_ GE187.out | refine below_set ?_ GE188.out) | exact HB.out)⟩⟩
      · rw [if_neg c16] at H
        have c16b0 : (t193 == 0) = false := beq_eq_false_iff_ne.mpr c16
        have c16b1 : (t193 != 0) = true := bne_iff_ne.mpr c16
        (first | rw [c16b0] | (simp only [i64_w, i32_w]; rw [c16b0]) | skip)
        have H' := Aside0.mk H
        clear H
        go_wp2
        go_meet
        case rel => exact ⟨_, (true), (by first | rfl | (simp; done) | (simp [*]; done)), H', ⟨by first | omega | exact Nat.le_refl _⟩, ⟨by (with_reducible repeat (first | apply Kd.R_alloc | apply Kd.R_drewN | apply Kd.R_drew)); exact Kd.R_mono HO192.out (fun _ hk => hk.2)⟩, ⟨by (with_reducible repeat (first | apply Kd.R_alloc | apply Kd.R_drewN | apply Kd.R_drew)); exact Kd.R_mono HO196.out (fun _ hk => hk.2)⟩, ⟨by (with_reducible repeat (first | refine blk_drewN ?_ _ | refine blk_drew ?_ | refine blk_alloc ?_ _)); exact BK187.out⟩, ⟨by (with_reducible repeat (first | refine blk_drewN ?_ _ | refine blk_drew ?_ | refine blk_alloc ?_ _)); exact BK188.out⟩, ⟨by repeat (first | (with_reducible first | exact HB.out | apply below_alloc | apply pw_below_drewN | apply below_drew1 | refine below_set ?_ GE187.out | refine below_set ?_ GE188.out) | exact HB.out)⟩⟩
    case rest =>
      clear HC7
      try clear c1
      try clear p2
      try clear c3
      try clear c4
      try clear c7
      try clear c8
      try clear c11
      try clear c16
      try clear c16b0
      try clear c16b1
      try clear hcz12_0
      try clear hcz12_1
      try clear hcz12_2
      try clear hcz12_3
      try clear hcz14_0
      try clear hcz14_1
      try clear hcz14_2
      try clear hcz14_3
      try clear hfz12_0
      try clear hfz12_1
      try clear hfz12_2
      try clear hfz12_3
      try clear hfz14_0
      try clear hfz14_1
      try clear hfz14_2
      try clear hfz14_3
      obtain ⟨kq, x26_6, rfl, HA, HJ6, HO_5, HO_7, BK187, BK188, HB⟩ := hcut
      cases kq with
      | zero => exact absurd HA.out (by simp [trivetlaw04_RecordApart.j0])
      | succ kj6 =>
        have H := HA.out
        clear HA
        simp only [trivetlaw04_RecordApart.j0] at H
        by_cases c17 : x26_6 = true
        · subst c17
          have H1 : (if t193 = 0 then (if t197 = 0 then (some true) else (if t197 = 3 then (some true) else ((trivetref04_MayEntry.f kj6 a1_0 a1_1 a1_2 l1_3).bind fun t198 => (some (!t198))))) else (if t193 = 3 then (if t197 = 0 then (some true) else (if t197 = 3 then (some true) else ((trivetref04_MayEntry.f kj6 a1_0 a1_1 a1_2 l1_3).bind fun t199 => (some (!t199))))) else ((trivetref04_MayEntry.f kj6 a0_0 a0_1 a0_2 l0_3).bind fun t200 => (if t200 = true then (some false) else (if t197 = 0 then (some true) else (if t197 = 3 then (some true) else ((trivetref04_MayEntry.f kj6 a1_0 a1_1 a1_2 l1_3).bind fun t201 => (some (!t201))))))))) = some r := by rw [if_pos rfl] at H; exact H
          clear H
          have H := H1
          clear H1
          by_cases c18 : t193 = 0
          · rw [if_pos c18] at H
            have c18b0 : (t193 == 0) = true := beq_iff_eq.mpr c18
            have c18b1 : (t193 != 0) = false := bne_eq_false_iff_eq.mpr c18
            clear c18
            by_cases c19 : t197 = 0
            · rw [if_pos c19] at H
              have c19b0 : (t197 == 0) = true := beq_iff_eq.mpr c19
              have c19b1 : (t197 != 0) = false := bne_eq_false_iff_eq.mpr c19
              clear c19
              obtain rfl := Option.some.inj H
              go_wp2
              go_ret
              exact ⟨by first | rfl | (simp [errW_none, errW_some] <;> rfl) | (simp [*, errW_none, errW_some] <;> rfl), by repeat (first | (with_reducible first | exact HB.out | apply below_alloc | apply pw_below_drewN | apply below_drew1 | refine below_set ?_ GE187.out | refine below_set ?_ GE188.out) | exact HB.out)⟩
            · rw [if_neg c19] at H
              have c19b0 : (t197 == 0) = false := beq_eq_false_iff_ne.mpr c19
              have c19b1 : (t197 != 0) = true := bne_iff_ne.mpr c19
              by_cases c20 : t197 = 3
              · rw [if_pos c20] at H
                have c20b0 : (t197 == 3) = true := beq_iff_eq.mpr c20
                have c20b1 : (t197 != 3) = false := bne_eq_false_iff_eq.mpr c20
                clear c20
                obtain rfl := Option.some.inj H
                go_wp2
                go_ret
                exact ⟨by first | rfl | (simp [errW_none, errW_some] <;> rfl) | (simp [*, errW_none, errW_some] <;> rfl), by repeat (first | (with_reducible first | exact HB.out | apply below_alloc | apply pw_below_drewN | apply below_drew1 | refine below_set ?_ GE187.out | refine below_set ?_ GE188.out) | exact HB.out)⟩
              · rw [if_neg c20] at H
                have c20b0 : (t197 == 3) = false := beq_eq_false_iff_ne.mpr c20
                have c20b1 : (t197 != 3) = true := bne_iff_ne.mpr c20
                replace H := Option.bind_eq_some_iff.mp H
                obtain ⟨t198, A210, H⟩ := H
                replace H : (some (!t198)) = some r := H
                have A21 := Aside0.mk A210
                clear A210
                obtain rfl := Option.some.inj H
                have hnb22 := NB188_187.out
                have hnc22 := NB187_188.out
                have hcz23_0 : wc.cell? ⟨gb188, 0, none⟩ = some (.int .i64 a1_0) := (blk_cell BK188.out 0).trans rfl
                have hcz23_1 : wc.cell? ⟨gb188, 1, none⟩ = some (.int .i64 a1_1) := (blk_cell BK188.out 1).trans rfl
                have hcz23_2 : wc.cell? ⟨gb188, 2, none⟩ = some (.int .i64 a1_2) := (blk_cell BK188.out 2).trans rfl
                have hcz23_3 : wc.cell? ⟨gb188, 3, none⟩ = some (.slice A1_3 l1_3.length c1_3) := (blk_cell BK188.out 3).trans rfl
                have hfz23_0 := blk_frozen BK188.out 0
                have hfz23_1 := blk_frozen BK188.out 1
                have hfz23_2 := blk_frozen BK188.out 2
                have hfz23_3 := blk_frozen BK188.out 3
                go_wp2_with (first | (go_at_call 9; (with_reducible refine (trivetref04_MayEntry.calls kj6 a1_0 a1_1 a1_2 _ _ l1_3 t198 _ ?side1 ?side2 A21.out).mono ?_); (case side1 => repeat (first | exact (Kd.C_below HR1_3.out HB.out) | (with_reducible refine Kd.C_alloc ?_ _) | (with_reducible refine Kd.C_drewN ?_ _) | (with_reducible refine Kd.C_drew ?_))); (case side2 => exact HC1_3.out); rintro e w24 ⟨rfl, hb⟩; have n0_ := Aside0.mk (Kd.R_below (by (with_reducible repeat (first | apply Kd.R_alloc | apply Kd.R_drewN | apply Kd.R_drew)); exact HO_5.out) hb); have n1_ := Aside0.mk (Kd.R_below (by (with_reducible repeat (first | apply Kd.R_alloc | apply Kd.R_drewN | apply Kd.R_drew)); exact HO_7.out) hb); have n2_ := Aside0.mk (blk_below (g := gb187) (o := .cells #[.int .i64 a0_0, .int .i64 a0_1, .int .i64 a0_2, .slice A0_3 l0_3.length c0_3] 24 (0, 0)) (by (with_reducible repeat (first | refine blk_drewN ?_ _ | refine blk_drew ?_ | refine blk_alloc ?_ _)); exact BK187.out) hb); have n3_ := Aside0.mk (blk_below (g := gb188) (o := .cells #[.int .i64 a1_0, .int .i64 a1_1, .int .i64 a1_2, .slice A1_3 l1_3.length c1_3] 24 (0, 0)) (by (with_reducible repeat (first | refine blk_drewN ?_ _ | refine blk_drew ?_ | refine blk_alloc ?_ _)); exact BK188.out) hb); have n4_ := Aside0.mk (below_step (by repeat (first | (with_reducible first | exact HB.out | apply below_alloc | apply pw_below_drewN | apply below_drew1 | refine below_set ?_ GE187.out | refine below_set ?_ GE188.out) | exact HB.out)) hb); clear HO_5; clear HO_7; clear BK187; clear BK188; clear HB; have HO_5 := n0_; have HO_7 := n1_; have BK187 := n2_; have BK188 := n3_; have HB := n4_; clear n0_ n1_ n2_ n3_ n4_; (try clear hb); (try clear hb2); (try clear hk); (try clear hi)))
                go_ret
                exact ⟨by first | rfl | (simp [errW_none, errW_some] <;> rfl) | (simp [*, errW_none, errW_some] <;> rfl), by repeat (first | (with_reducible first | exact HB.out | apply below_alloc | apply pw_below_drewN | apply below_drew1 | refine below_set ?_ GE187.out | refine below_set ?_ GE188.out) | exact HB.out)⟩
          · rw [if_neg c18] at H
            have c18b0 : (t193 == 0) = false := beq_eq_false_iff_ne.mpr c18
            have c18b1 : (t193 != 0) = true := bne_iff_ne.mpr c18
            by_cases c25 : t193 = 3
            · rw [if_pos c25] at H
              have c25b0 : (t193 == 3) = true := beq_iff_eq.mpr c25
              have c25b1 : (t193 != 3) = false := bne_eq_false_iff_eq.mpr c25
              clear c25
              by_cases c26 : t197 = 0
              · rw [if_pos c26] at H
                have c26b0 : (t197 == 0) = true := beq_iff_eq.mpr c26
                have c26b1 : (t197 != 0) = false := bne_eq_false_iff_eq.mpr c26
                clear c26
                obtain rfl := Option.some.inj H
                go_wp2
                go_ret
                exact ⟨by first | rfl | (simp [errW_none, errW_some] <;> rfl) | (simp [*, errW_none, errW_some] <;> rfl), by repeat (first | (with_reducible first | exact HB.out | apply below_alloc | apply pw_below_drewN | apply below_drew1 | refine below_set ?_ GE187.out | refine below_set ?_ GE188.out) | exact HB.out)⟩
              · rw [if_neg c26] at H
                have c26b0 : (t197 == 0) = false := beq_eq_false_iff_ne.mpr c26
                have c26b1 : (t197 != 0) = true := bne_iff_ne.mpr c26
                by_cases c27 : t197 = 3
                · rw [if_pos c27] at H
                  have c27b0 : (t197 == 3) = true := beq_iff_eq.mpr c27
                  have c27b1 : (t197 != 3) = false := bne_eq_false_iff_eq.mpr c27
                  clear c27
                  obtain rfl := Option.some.inj H
                  go_wp2
                  go_ret
                  exact ⟨by first | rfl | (simp [errW_none, errW_some] <;> rfl) | (simp [*, errW_none, errW_some] <;> rfl), by repeat (first | (with_reducible first | exact HB.out | apply below_alloc | apply pw_below_drewN | apply below_drew1 | refine below_set ?_ GE187.out | refine below_set ?_ GE188.out) | exact HB.out)⟩
                · rw [if_neg c27] at H
                  have c27b0 : (t197 == 3) = false := beq_eq_false_iff_ne.mpr c27
                  have c27b1 : (t197 != 3) = true := bne_iff_ne.mpr c27
                  replace H := Option.bind_eq_some_iff.mp H
                  obtain ⟨t199, A280, H⟩ := H
                  replace H : (some (!t199)) = some r := H
                  have A28 := Aside0.mk A280
                  clear A280
                  obtain rfl := Option.some.inj H
                  have hnb29 := NB188_187.out
                  have hnc29 := NB187_188.out
                  have hcz30_0 : wc.cell? ⟨gb188, 0, none⟩ = some (.int .i64 a1_0) := (blk_cell BK188.out 0).trans rfl
                  have hcz30_1 : wc.cell? ⟨gb188, 1, none⟩ = some (.int .i64 a1_1) := (blk_cell BK188.out 1).trans rfl
                  have hcz30_2 : wc.cell? ⟨gb188, 2, none⟩ = some (.int .i64 a1_2) := (blk_cell BK188.out 2).trans rfl
                  have hcz30_3 : wc.cell? ⟨gb188, 3, none⟩ = some (.slice A1_3 l1_3.length c1_3) := (blk_cell BK188.out 3).trans rfl
                  have hfz30_0 := blk_frozen BK188.out 0
                  have hfz30_1 := blk_frozen BK188.out 1
                  have hfz30_2 := blk_frozen BK188.out 2
                  have hfz30_3 := blk_frozen BK188.out 3
                  go_wp2_with (first | (go_at_call 9; (with_reducible refine (trivetref04_MayEntry.calls kj6 a1_0 a1_1 a1_2 _ _ l1_3 t199 _ ?side1 ?side2 A28.out).mono ?_); (case side1 => repeat (first | exact (Kd.C_below HR1_3.out HB.out) | (with_reducible refine Kd.C_alloc ?_ _) | (with_reducible refine Kd.C_drewN ?_ _) | (with_reducible refine Kd.C_drew ?_))); (case side2 => exact HC1_3.out); rintro e w31 ⟨rfl, hb⟩; have n0_ := Aside0.mk (Kd.R_below (by (with_reducible repeat (first | apply Kd.R_alloc | apply Kd.R_drewN | apply Kd.R_drew)); exact HO_5.out) hb); have n1_ := Aside0.mk (Kd.R_below (by (with_reducible repeat (first | apply Kd.R_alloc | apply Kd.R_drewN | apply Kd.R_drew)); exact HO_7.out) hb); have n2_ := Aside0.mk (blk_below (g := gb187) (o := .cells #[.int .i64 a0_0, .int .i64 a0_1, .int .i64 a0_2, .slice A0_3 l0_3.length c0_3] 24 (0, 0)) (by (with_reducible repeat (first | refine blk_drewN ?_ _ | refine blk_drew ?_ | refine blk_alloc ?_ _)); exact BK187.out) hb); have n3_ := Aside0.mk (blk_below (g := gb188) (o := .cells #[.int .i64 a1_0, .int .i64 a1_1, .int .i64 a1_2, .slice A1_3 l1_3.length c1_3] 24 (0, 0)) (by (with_reducible repeat (first | refine blk_drewN ?_ _ | refine blk_drew ?_ | refine blk_alloc ?_ _)); exact BK188.out) hb); have n4_ := Aside0.mk (below_step (by repeat (first | (with_reducible first | exact HB.out | apply below_alloc | apply pw_below_drewN | apply below_drew1 | refine below_set ?_ GE187.out | refine below_set ?_ GE188.out) | exact HB.out)) hb); clear HO_5; clear HO_7; clear BK187; clear BK188; clear HB; have HO_5 := n0_; have HO_7 := n1_; have BK187 := n2_; have BK188 := n3_; have HB := n4_; clear n0_ n1_ n2_ n3_ n4_; (try clear hb); (try clear hb2); (try clear hk); (try clear hi)))
                  go_ret
                  exact ⟨by first | rfl | (simp [errW_none, errW_some] <;> rfl) | (simp [*, errW_none, errW_some] <;> rfl), by repeat (first | (with_reducible first | exact HB.out | apply below_alloc | apply pw_below_drewN | apply below_drew1 | refine below_set ?_ GE187.out | refine below_set ?_ GE188.out) | exact HB.out)⟩
            · rw [if_neg c25] at H
              have c25b0 : (t193 == 3) = false := beq_eq_false_iff_ne.mpr c25
              have c25b1 : (t193 != 3) = true := bne_iff_ne.mpr c25
              replace H := Option.bind_eq_some_iff.mp H
              obtain ⟨t200, A320, H⟩ := H
              replace H : (if t200 = true then (some false) else (if t197 = 0 then (some true) else (if t197 = 3 then (some true) else ((trivetref04_MayEntry.f kj6 a1_0 a1_1 a1_2 l1_3).bind fun t201 => (some (!t201)))))) = some r := H
              have A32 := Aside0.mk A320
              clear A320
              by_cases c33 : t200 = true
              · subst c33
                have H1 : (some false) = some r := by rw [if_pos rfl] at H; exact H
                clear H
                have H := H1
                clear H1
                obtain rfl := Option.some.inj H
                have hnb34 := NB187_188.out
                have hnc34 := NB188_187.out
                have hcz35_0 : wc.cell? ⟨gb187, 0, none⟩ = some (.int .i64 a0_0) := (blk_cell BK187.out 0).trans rfl
                have hcz35_1 : wc.cell? ⟨gb187, 1, none⟩ = some (.int .i64 a0_1) := (blk_cell BK187.out 1).trans rfl
                have hcz35_2 : wc.cell? ⟨gb187, 2, none⟩ = some (.int .i64 a0_2) := (blk_cell BK187.out 2).trans rfl
                have hcz35_3 : wc.cell? ⟨gb187, 3, none⟩ = some (.slice A0_3 l0_3.length c0_3) := (blk_cell BK187.out 3).trans rfl
                have hfz35_0 := blk_frozen BK187.out 0
                have hfz35_1 := blk_frozen BK187.out 1
                have hfz35_2 := blk_frozen BK187.out 2
                have hfz35_3 := blk_frozen BK187.out 3
                go_wp2_with (first | (go_at_call 9; (with_reducible refine (trivetref04_MayEntry.calls kj6 a0_0 a0_1 a0_2 _ _ l0_3 true _ ?side1 ?side2 A32.out).mono ?_); (case side1 => repeat (first | exact (Kd.C_below HR0_3.out HB.out) | (with_reducible refine Kd.C_alloc ?_ _) | (with_reducible refine Kd.C_drewN ?_ _) | (with_reducible refine Kd.C_drew ?_))); (case side2 => exact HC0_3.out); rintro e w36 ⟨rfl, hb⟩; have n0_ := Aside0.mk (Kd.R_below (by (with_reducible repeat (first | apply Kd.R_alloc | apply Kd.R_drewN | apply Kd.R_drew)); exact HO_5.out) hb); have n1_ := Aside0.mk (Kd.R_below (by (with_reducible repeat (first | apply Kd.R_alloc | apply Kd.R_drewN | apply Kd.R_drew)); exact HO_7.out) hb); have n2_ := Aside0.mk (blk_below (g := gb187) (o := .cells #[.int .i64 a0_0, .int .i64 a0_1, .int .i64 a0_2, .slice A0_3 l0_3.length c0_3] 24 (0, 0)) (by (with_reducible repeat (first | refine blk_drewN ?_ _ | refine blk_drew ?_ | refine blk_alloc ?_ _)); exact BK187.out) hb); have n3_ := Aside0.mk (blk_below (g := gb188) (o := .cells #[.int .i64 a1_0, .int .i64 a1_1, .int .i64 a1_2, .slice A1_3 l1_3.length c1_3] 24 (0, 0)) (by (with_reducible repeat (first | refine blk_drewN ?_ _ | refine blk_drew ?_ | refine blk_alloc ?_ _)); exact BK188.out) hb); have n4_ := Aside0.mk (below_step (by repeat (first | (with_reducible first | exact HB.out | apply below_alloc | apply pw_below_drewN | apply below_drew1 | refine below_set ?_ GE187.out | refine below_set ?_ GE188.out) | exact HB.out)) hb); clear HO_5; clear HO_7; clear BK187; clear BK188; clear HB; have HO_5 := n0_; have HO_7 := n1_; have BK187 := n2_; have BK188 := n3_; have HB := n4_; clear n0_ n1_ n2_ n3_ n4_; (try clear hb); (try clear hb2); (try clear hk); (try clear hi)))
                go_ret
                exact ⟨by first | rfl | (simp [errW_none, errW_some] <;> rfl) | (simp [*, errW_none, errW_some] <;> rfl), by repeat (first | (with_reducible first | exact HB.out | apply below_alloc | apply pw_below_drewN | apply below_drew1 | refine below_set ?_ GE187.out | refine below_set ?_ GE188.out) | exact HB.out)⟩
              · replace c33 := Bool.eq_false_iff.mpr c33
                subst c33
                have H1 : (if t197 = 0 then (some true) else (if t197 = 3 then (some true) else ((trivetref04_MayEntry.f kj6 a1_0 a1_1 a1_2 l1_3).bind fun t201 => (some (!t201))))) = some r := by rw [if_neg (show ¬ (false = true) by decide)] at H; exact H
                clear H
                have H := H1
                clear H1
                by_cases c37 : t197 = 0
                · rw [if_pos c37] at H
                  have c37b0 : (t197 == 0) = true := beq_iff_eq.mpr c37
                  have c37b1 : (t197 != 0) = false := bne_eq_false_iff_eq.mpr c37
                  clear c37
                  obtain rfl := Option.some.inj H
                  have hnb38 := NB187_188.out
                  have hnc38 := NB188_187.out
                  have hcz39_0 : wc.cell? ⟨gb187, 0, none⟩ = some (.int .i64 a0_0) := (blk_cell BK187.out 0).trans rfl
                  have hcz39_1 : wc.cell? ⟨gb187, 1, none⟩ = some (.int .i64 a0_1) := (blk_cell BK187.out 1).trans rfl
                  have hcz39_2 : wc.cell? ⟨gb187, 2, none⟩ = some (.int .i64 a0_2) := (blk_cell BK187.out 2).trans rfl
                  have hcz39_3 : wc.cell? ⟨gb187, 3, none⟩ = some (.slice A0_3 l0_3.length c0_3) := (blk_cell BK187.out 3).trans rfl
                  have hfz39_0 := blk_frozen BK187.out 0
                  have hfz39_1 := blk_frozen BK187.out 1
                  have hfz39_2 := blk_frozen BK187.out 2
                  have hfz39_3 := blk_frozen BK187.out 3
                  go_wp2_with (first | (go_at_call 9; (with_reducible refine (trivetref04_MayEntry.calls kj6 a0_0 a0_1 a0_2 _ _ l0_3 false _ ?side1 ?side2 A32.out).mono ?_); (case side1 => repeat (first | exact (Kd.C_below HR0_3.out HB.out) | (with_reducible refine Kd.C_alloc ?_ _) | (with_reducible refine Kd.C_drewN ?_ _) | (with_reducible refine Kd.C_drew ?_))); (case side2 => exact HC0_3.out); rintro e w40 ⟨rfl, hb⟩; have n0_ := Aside0.mk (Kd.R_below (by (with_reducible repeat (first | apply Kd.R_alloc | apply Kd.R_drewN | apply Kd.R_drew)); exact HO_5.out) hb); have n1_ := Aside0.mk (Kd.R_below (by (with_reducible repeat (first | apply Kd.R_alloc | apply Kd.R_drewN | apply Kd.R_drew)); exact HO_7.out) hb); have n2_ := Aside0.mk (blk_below (g := gb187) (o := .cells #[.int .i64 a0_0, .int .i64 a0_1, .int .i64 a0_2, .slice A0_3 l0_3.length c0_3] 24 (0, 0)) (by (with_reducible repeat (first | refine blk_drewN ?_ _ | refine blk_drew ?_ | refine blk_alloc ?_ _)); exact BK187.out) hb); have n3_ := Aside0.mk (blk_below (g := gb188) (o := .cells #[.int .i64 a1_0, .int .i64 a1_1, .int .i64 a1_2, .slice A1_3 l1_3.length c1_3] 24 (0, 0)) (by (with_reducible repeat (first | refine blk_drewN ?_ _ | refine blk_drew ?_ | refine blk_alloc ?_ _)); exact BK188.out) hb); have n4_ := Aside0.mk (below_step (by repeat (first | (with_reducible first | exact HB.out | apply below_alloc | apply pw_below_drewN | apply below_drew1 | refine below_set ?_ GE187.out | refine below_set ?_ GE188.out) | exact HB.out)) hb); clear HO_5; clear HO_7; clear BK187; clear BK188; clear HB; have HO_5 := n0_; have HO_7 := n1_; have BK187 := n2_; have BK188 := n3_; have HB := n4_; clear n0_ n1_ n2_ n3_ n4_; (try clear hb); (try clear hb2); (try clear hk); (try clear hi)))
                  go_ret
                  exact ⟨by first | rfl | (simp [errW_none, errW_some] <;> rfl) | (simp [*, errW_none, errW_some] <;> rfl), by repeat (first | (with_reducible first | exact HB.out | apply below_alloc | apply pw_below_drewN | apply below_drew1 | refine below_set ?_ GE187.out | refine below_set ?_ GE188.out) | exact HB.out)⟩
                · rw [if_neg c37] at H
                  have c37b0 : (t197 == 0) = false := beq_eq_false_iff_ne.mpr c37
                  have c37b1 : (t197 != 0) = true := bne_iff_ne.mpr c37
                  by_cases c41 : t197 = 3
                  · rw [if_pos c41] at H
                    have c41b0 : (t197 == 3) = true := beq_iff_eq.mpr c41
                    have c41b1 : (t197 != 3) = false := bne_eq_false_iff_eq.mpr c41
                    clear c41
                    obtain rfl := Option.some.inj H
                    have hnb42 := NB187_188.out
                    have hnc42 := NB188_187.out
                    have hcz43_0 : wc.cell? ⟨gb187, 0, none⟩ = some (.int .i64 a0_0) := (blk_cell BK187.out 0).trans rfl
                    have hcz43_1 : wc.cell? ⟨gb187, 1, none⟩ = some (.int .i64 a0_1) := (blk_cell BK187.out 1).trans rfl
                    have hcz43_2 : wc.cell? ⟨gb187, 2, none⟩ = some (.int .i64 a0_2) := (blk_cell BK187.out 2).trans rfl
                    have hcz43_3 : wc.cell? ⟨gb187, 3, none⟩ = some (.slice A0_3 l0_3.length c0_3) := (blk_cell BK187.out 3).trans rfl
                    have hfz43_0 := blk_frozen BK187.out 0
                    have hfz43_1 := blk_frozen BK187.out 1
                    have hfz43_2 := blk_frozen BK187.out 2
                    have hfz43_3 := blk_frozen BK187.out 3
                    go_wp2_with (first | (go_at_call 9; (with_reducible refine (trivetref04_MayEntry.calls kj6 a0_0 a0_1 a0_2 _ _ l0_3 false _ ?side1 ?side2 A32.out).mono ?_); (case side1 => repeat (first | exact (Kd.C_below HR0_3.out HB.out) | (with_reducible refine Kd.C_alloc ?_ _) | (with_reducible refine Kd.C_drewN ?_ _) | (with_reducible refine Kd.C_drew ?_))); (case side2 => exact HC0_3.out); rintro e w44 ⟨rfl, hb⟩; have n0_ := Aside0.mk (Kd.R_below (by (with_reducible repeat (first | apply Kd.R_alloc | apply Kd.R_drewN | apply Kd.R_drew)); exact HO_5.out) hb); have n1_ := Aside0.mk (Kd.R_below (by (with_reducible repeat (first | apply Kd.R_alloc | apply Kd.R_drewN | apply Kd.R_drew)); exact HO_7.out) hb); have n2_ := Aside0.mk (blk_below (g := gb187) (o := .cells #[.int .i64 a0_0, .int .i64 a0_1, .int .i64 a0_2, .slice A0_3 l0_3.length c0_3] 24 (0, 0)) (by (with_reducible repeat (first | refine blk_drewN ?_ _ | refine blk_drew ?_ | refine blk_alloc ?_ _)); exact BK187.out) hb); have n3_ := Aside0.mk (blk_below (g := gb188) (o := .cells #[.int .i64 a1_0, .int .i64 a1_1, .int .i64 a1_2, .slice A1_3 l1_3.length c1_3] 24 (0, 0)) (by (with_reducible repeat (first | refine blk_drewN ?_ _ | refine blk_drew ?_ | refine blk_alloc ?_ _)); exact BK188.out) hb); have n4_ := Aside0.mk (below_step (by repeat (first | (with_reducible first | exact HB.out | apply below_alloc | apply pw_below_drewN | apply below_drew1 | refine below_set ?_ GE187.out | refine below_set ?_ GE188.out) | exact HB.out)) hb); clear HO_5; clear HO_7; clear BK187; clear BK188; clear HB; have HO_5 := n0_; have HO_7 := n1_; have BK187 := n2_; have BK188 := n3_; have HB := n4_; clear n0_ n1_ n2_ n3_ n4_; (try clear hb); (try clear hb2); (try clear hk); (try clear hi)))
                    go_ret
                    exact ⟨by first | rfl | (simp [errW_none, errW_some] <;> rfl) | (simp [*, errW_none, errW_some] <;> rfl), by repeat (first | (with_reducible first | exact HB.out | apply below_alloc | apply pw_below_drewN | apply below_drew1 | refine below_set ?_ GE187.out | refine below_set ?_ GE188.out) | exact HB.out)⟩
                  · rw [if_neg c41] at H
                    have c41b0 : (t197 == 3) = false := beq_eq_false_iff_ne.mpr c41
                    have c41b1 : (t197 != 3) = true := bne_iff_ne.mpr c41
                    replace H := Option.bind_eq_some_iff.mp H
                    obtain ⟨t201, A450, H⟩ := H
                    replace H : (some (!t201)) = some r := H
                    have A45 := Aside0.mk A450
                    clear A450
                    obtain rfl := Option.some.inj H
                    have hnb46 := NB187_188.out
                    have hnc46 := NB188_187.out
                    have hcz47_0 : wc.cell? ⟨gb187, 0, none⟩ = some (.int .i64 a0_0) := (blk_cell BK187.out 0).trans rfl
                    have hcz47_1 : wc.cell? ⟨gb187, 1, none⟩ = some (.int .i64 a0_1) := (blk_cell BK187.out 1).trans rfl
                    have hcz47_2 : wc.cell? ⟨gb187, 2, none⟩ = some (.int .i64 a0_2) := (blk_cell BK187.out 2).trans rfl
                    have hcz47_3 : wc.cell? ⟨gb187, 3, none⟩ = some (.slice A0_3 l0_3.length c0_3) := (blk_cell BK187.out 3).trans rfl
                    have hfz47_0 := blk_frozen BK187.out 0
                    have hfz47_1 := blk_frozen BK187.out 1
                    have hfz47_2 := blk_frozen BK187.out 2
                    have hfz47_3 := blk_frozen BK187.out 3
                    go_wp2_with (first | (go_at_call 9; (with_reducible refine (trivetref04_MayEntry.calls kj6 a0_0 a0_1 a0_2 _ _ l0_3 false _ ?side1 ?side2 A32.out).mono ?_); (case side1 => repeat (first | exact (Kd.C_below HR0_3.out HB.out) | (with_reducible refine Kd.C_alloc ?_ _) | (with_reducible refine Kd.C_drewN ?_ _) | (with_reducible refine Kd.C_drew ?_))); (case side2 => exact HC0_3.out); rintro e w48 ⟨rfl, hb⟩; have n0_ := Aside0.mk (Kd.R_below (by (with_reducible repeat (first | apply Kd.R_alloc | apply Kd.R_drewN | apply Kd.R_drew)); exact HO_5.out) hb); have n1_ := Aside0.mk (Kd.R_below (by (with_reducible repeat (first | apply Kd.R_alloc | apply Kd.R_drewN | apply Kd.R_drew)); exact HO_7.out) hb); have n2_ := Aside0.mk (blk_below (g := gb187) (o := .cells #[.int .i64 a0_0, .int .i64 a0_1, .int .i64 a0_2, .slice A0_3 l0_3.length c0_3] 24 (0, 0)) (by (with_reducible repeat (first | refine blk_drewN ?_ _ | refine blk_drew ?_ | refine blk_alloc ?_ _)); exact BK187.out) hb); have n3_ := Aside0.mk (blk_below (g := gb188) (o := .cells #[.int .i64 a1_0, .int .i64 a1_1, .int .i64 a1_2, .slice A1_3 l1_3.length c1_3] 24 (0, 0)) (by (with_reducible repeat (first | refine blk_drewN ?_ _ | refine blk_drew ?_ | refine blk_alloc ?_ _)); exact BK188.out) hb); have n4_ := Aside0.mk (below_step (by repeat (first | (with_reducible first | exact HB.out | apply below_alloc | apply pw_below_drewN | apply below_drew1 | refine below_set ?_ GE187.out | refine below_set ?_ GE188.out) | exact HB.out)) hb); clear HO_5; clear HO_7; clear BK187; clear BK188; clear HB; have HO_5 := n0_; have HO_7 := n1_; have BK187 := n2_; have BK188 := n3_; have HB := n4_; clear n0_ n1_ n2_ n3_ n4_; (try clear hb); (try clear hb2); (try clear hk); (try clear hi); have hcz49_0 : w48.cell? ⟨gb188, 0, none⟩ = some (.int .i64 a1_0) := (blk_cell BK188.out 0).trans rfl; have hcz49_1 : w48.cell? ⟨gb188, 1, none⟩ = some (.int .i64 a1_1) := (blk_cell BK188.out 1).trans rfl; have hcz49_2 : w48.cell? ⟨gb188, 2, none⟩ = some (.int .i64 a1_2) := (blk_cell BK188.out 2).trans rfl; have hcz49_3 : w48.cell? ⟨gb188, 3, none⟩ = some (.slice A1_3 l1_3.length c1_3) := (blk_cell BK188.out 3).trans rfl; have hfz49_0 := blk_frozen BK188.out 0; have hfz49_1 := blk_frozen BK188.out 1; have hfz49_2 := blk_frozen BK188.out 2; have hfz49_3 := blk_frozen BK188.out 3) | (go_at_call 9; (with_reducible refine (trivetref04_MayEntry.calls kj6 a1_0 a1_1 a1_2 _ _ l1_3 t201 _ ?side1 ?side2 A45.out).mono ?_); (case side1 => repeat (first | exact (Kd.C_below HR1_3.out HB.out) | (with_reducible refine Kd.C_alloc ?_ _) | (with_reducible refine Kd.C_drewN ?_ _) | (with_reducible refine Kd.C_drew ?_))); (case side2 => exact HC1_3.out); rintro e w50 ⟨rfl, hb⟩; have n0_ := Aside0.mk (Kd.R_below (by (with_reducible repeat (first | apply Kd.R_alloc | apply Kd.R_drewN | apply Kd.R_drew)); exact HO_5.out) hb); have n1_ := Aside0.mk (Kd.R_below (by (with_reducible repeat (first | apply Kd.R_alloc | apply Kd.R_drewN | apply Kd.R_drew)); exact HO_7.out) hb); have n2_ := Aside0.mk (blk_below (g := gb187) (o := .cells #[.int .i64 a0_0, .int .i64 a0_1, .int .i64 a0_2, .slice A0_3 l0_3.length c0_3] 24 (0, 0)) (by (with_reducible repeat (first | refine blk_drewN ?_ _ | refine blk_drew ?_ | refine blk_alloc ?_ _)); exact BK187.out) hb); have n3_ := Aside0.mk (blk_below (g := gb188) (o := .cells #[.int .i64 a1_0, .int .i64 a1_1, .int .i64 a1_2, .slice A1_3 l1_3.length c1_3] 24 (0, 0)) (by (with_reducible repeat (first | refine blk_drewN ?_ _ | refine blk_drew ?_ | refine blk_alloc ?_ _)); exact BK188.out) hb); have n4_ := Aside0.mk (below_step (by repeat (first | (with_reducible first | exact HB.out | apply below_alloc | apply pw_below_drewN | apply below_drew1 | refine below_set ?_ GE187.out | refine below_set ?_ GE188.out) | exact HB.out)) hb); clear HO_5; clear HO_7; clear BK187; clear BK188; clear HB; have HO_5 := n0_; have HO_7 := n1_; have BK187 := n2_; have BK188 := n3_; have HB := n4_; clear n0_ n1_ n2_ n3_ n4_; (try clear hb); (try clear hb2); (try clear hk); (try clear hi)))
                    go_ret
                    exact ⟨by first | rfl | (simp [errW_none, errW_some] <;> rfl) | (simp [*, errW_none, errW_some] <;> rfl), by repeat (first | (with_reducible first | exact HB.out | apply below_alloc | apply pw_below_drewN | apply below_drew1 | refine below_set ?_ GE187.out | refine below_set ?_ GE188.out) | exact HB.out)⟩
        · replace c17 := Bool.eq_false_iff.mpr c17
          subst c17
          have H1 : ((trivetref04_SameEntry.f kj6 a0_0 a0_1 a0_2 l0_3 a1_0 a1_1 a1_2 l1_3).bind fun t202 => ((bytes_Equal.f t190 t194).bind fun t203 => (some (t202 == t203)))) = some r := by rw [if_neg (show ¬ (false = true) by decide)] at H; exact H
          clear H
          have H := H1
          clear H1
          replace H := Option.bind_eq_some_iff.mp H
          obtain ⟨t202, A510, H⟩ := H
          replace H : ((bytes_Equal.f t190 t194).bind fun t203 => (some (t202 == t203))) = some r := H
          have A51 := Aside0.mk A510
          clear A510
          replace H := Option.bind_eq_some_iff.mp H
          obtain ⟨t203, A520, H⟩ := H
          replace H : (some (t202 == t203)) = some r := H
          have A52 := Aside0.mk A520
          clear A520
          obtain rfl := Option.some.inj H
          have hnb53 := NB187_188.out
          have hnc53 := NB188_187.out
          have hcz54_0 : wc.cell? ⟨gb187, 0, none⟩ = some (.int .i64 a0_0) := (blk_cell BK187.out 0).trans rfl
          have hcz54_1 : wc.cell? ⟨gb187, 1, none⟩ = some (.int .i64 a0_1) := (blk_cell BK187.out 1).trans rfl
          have hcz54_2 : wc.cell? ⟨gb187, 2, none⟩ = some (.int .i64 a0_2) := (blk_cell BK187.out 2).trans rfl
          have hcz54_3 : wc.cell? ⟨gb187, 3, none⟩ = some (.slice A0_3 l0_3.length c0_3) := (blk_cell BK187.out 3).trans rfl
          have hfz54_0 := blk_frozen BK187.out 0
          have hfz54_1 := blk_frozen BK187.out 1
          have hfz54_2 := blk_frozen BK187.out 2
          have hfz54_3 := blk_frozen BK187.out 3
          have hcz55_0 : wc.cell? ⟨gb188, 0, none⟩ = some (.int .i64 a1_0) := (blk_cell BK188.out 0).trans rfl
          have hcz55_1 : wc.cell? ⟨gb188, 1, none⟩ = some (.int .i64 a1_1) := (blk_cell BK188.out 1).trans rfl
          have hcz55_2 : wc.cell? ⟨gb188, 2, none⟩ = some (.int .i64 a1_2) := (blk_cell BK188.out 2).trans rfl
          have hcz55_3 : wc.cell? ⟨gb188, 3, none⟩ = some (.slice A1_3 l1_3.length c1_3) := (blk_cell BK188.out 3).trans rfl
          have hfz55_0 := blk_frozen BK188.out 0
          have hfz55_1 := blk_frozen BK188.out 1
          have hfz55_2 := blk_frozen BK188.out 2
          have hfz55_3 := blk_frozen BK188.out 3
          go_wp2_with (first | ((with_reducible refine gate_callee (f := 10) rfl ?_); refine goesL_ (some 53) rfl rfl Try.func10 (by kernel_rfl) rfl #[.agg #[.int .i64 a0_0, .int .i64 a0_1, .int .i64 a0_2, .slice A0_3 l0_3.length c0_3], .agg #[.int .i64 a1_0, .int .i64 a1_1, .int .i64 a1_2, .slice A1_3 l1_3.length c1_3]] rfl (by (try simp only [List.map_toArray, List.map_cons, List.map_nil]); first | done | rfl | (simp only [List.length_drop, List.length_take]; rfl)) ?_; (with_reducible refine (trivetref04_SameEntry.calls kj6 a0_0 a0_1 a0_2 _ _ l0_3 a1_0 a1_1 a1_2 _ _ l1_3 t202 _ ?side1 ?side2 ?side3 ?side4 A51.out).mono ?_); (case side1 => repeat (first | exact (Kd.C_below HR0_3.out HB.out) | (with_reducible refine Kd.C_alloc ?_ _) | (with_reducible refine Kd.C_drewN ?_ _) | (with_reducible refine Kd.C_drew ?_))); (case side2 => exact HC0_3.out); (case side3 => repeat (first | exact (Kd.C_below HR1_3.out HB.out) | (with_reducible refine Kd.C_alloc ?_ _) | (with_reducible refine Kd.C_drewN ?_ _) | (with_reducible refine Kd.C_drew ?_))); (case side4 => exact HC1_3.out); rintro e w56 ⟨rfl, hb⟩; refine ⟨_, rfl, ?_⟩; have n0_ := Aside0.mk (Kd.R_below (by (with_reducible repeat (first | apply Kd.R_alloc | apply Kd.R_drewN | apply Kd.R_drew)); exact HO_5.out) hb); have n1_ := Aside0.mk (Kd.R_below (by (with_reducible repeat (first | apply Kd.R_alloc | apply Kd.R_drewN | apply Kd.R_drew)); exact HO_7.out) hb); have n2_ := Aside0.mk (blk_below (g := gb187) (o := .cells #[.int .i64 a0_0, .int .i64 a0_1, .int .i64 a0_2, .slice A0_3 l0_3.length c0_3] 24 (0, 0)) (by (with_reducible repeat (first | refine blk_drewN ?_ _ | refine blk_drew ?_ | refine blk_alloc ?_ _)); exact BK187.out) hb); have n3_ := Aside0.mk (blk_below (g := gb188) (o := .cells #[.int .i64 a1_0, .int .i64 a1_1, .int .i64 a1_2, .slice A1_3 l1_3.length c1_3] 24 (0, 0)) (by (with_reducible repeat (first | refine blk_drewN ?_ _ | refine blk_drew ?_ | refine blk_alloc ?_ _)); exact BK188.out) hb); have n4_ := Aside0.mk (below_step (by repeat (first | (with_reducible first | exact HB.out | apply below_alloc | apply pw_below_drewN | apply below_drew1 | refine below_set ?_ GE187.out | refine below_set ?_ GE188.out) | exact HB.out)) hb); clear HO_5; clear HO_7; clear BK187; clear BK188; clear HB; have HO_5 := n0_; have HO_7 := n1_; have BK187 := n2_; have BK188 := n3_; have HB := n4_; clear n0_ n1_ n2_ n3_ n4_; (try clear hb); (try clear hb2); (try clear hk); (try clear hi); obtain ⟨Ao57, co57, eo57⟩ := Kd.R_slice HO_5.out; subst eo57; obtain ⟨Ao58, co58, eo58⟩ := Kd.R_slice HO_7.out; subst eo58) | ((with_reducible refine gate_callee (f := 11) rfl ?_); refine goesL_ (some 56) rfl rfl Try.func11 (by kernel_rfl) rfl #[.slice Ao57 t190.length co57, .slice Ao58 t194.length co58] rfl (by (try simp only [List.map_toArray, List.map_cons, List.map_nil]); first | done | rfl | (simp only [List.length_drop, List.length_take]; rfl)) ?_; (with_reducible refine (bytes_Equal.calls _ _ t190 _ _ t194 t203 _ ?side1 ?side2 ?side3 ?side4 A52.out).mono ?_); (case side1 => repeat (first | exact (Kd.R_reads' HO_5.out).2.2 | (with_reducible refine Kd.C_alloc ?_ _) | (with_reducible refine Kd.C_drewN ?_ _) | (with_reducible refine Kd.C_drew ?_))); (case side2 => exact (Kd.R_reads' HO_5.out).2.1); (case side3 => repeat (first | exact (Kd.R_reads' HO_7.out).2.2 | (with_reducible refine Kd.C_alloc ?_ _) | (with_reducible refine Kd.C_drewN ?_ _) | (with_reducible refine Kd.C_drew ?_))); (case side4 => exact (Kd.R_reads' HO_7.out).2.1); rintro e w' ⟨rfl, ⟨nd, rfl⟩⟩; refine ⟨_, rfl, ?_⟩))
          go_ret
          exact ⟨by first | rfl | (simp [errW_none, errW_some] <;> rfl) | (simp [*, errW_none, errW_some] <;> rfl), by repeat (first | (with_reducible first | exact HB.out | apply below_alloc | apply pw_below_drewN | apply below_drew1 | refine below_set ?_ GE187.out | refine below_set ?_ GE188.out) | exact HB.out)⟩
  · replace c4 := Bool.eq_false_iff.mpr c4
    subst c4
    have H1 : (some false) = some r := by rw [if_neg (show ¬ (false = true) by decide)] at H; exact H
    clear H
    have H := H1
    clear H1
    obtain rfl := Option.some.inj H
    go_enter Try.func3, Try.ntmps3
    go_wp2_with (first | ((with_reducible refine gate_dst (N := 2) rfl ?_); refine box_event ?hg (N := 2) ?hd (cs := #[.int .i64 a0_0, .int .i64 a0_1, .int .i64 a0_2, .slice A0_3 l0_3.length c0_3]) (t := 24) ?hr ?_; (case hd => rfl); (case hg => rfl); (case hr => first | (go_simp; done) | (go_simp; rfl)); intro gb187 hg w59 hbox hb; have n0_ := Aside0.mk (below_step (by repeat (first | (with_reducible first | exact HB.out | apply below_alloc | apply pw_below_drewN | apply below_drew1) | exact HB.out)) hb); have n1_ := Aside0.mk (hbox); have n2_ := Aside0.mk ((by rw [hg]; exact (below_size (by repeat (first | (with_reducible first | exact HB.out | apply below_alloc | apply pw_below_drewN | apply below_drew1) | exact HB.out))) : w.heap.size ≤ gb187)); have n3_ := Aside0.mk ((by rw [hg]; exact (below_size (by repeat (first | (with_reducible first | exact HB.out | apply below_alloc | apply pw_below_drewN | apply below_drew1) | exact HB.out))) : w.heap.size ≤ gb187)); clear HB; have HB := n0_; have BK187 := n1_; have GW187 := n2_; have GE187 := n3_; clear n0_ n1_ n2_ n3_; clear hb hbox hg) | ((with_reducible refine gate_dst (N := 3) rfl ?_); refine box_event ?hg (N := 3) ?hd (cs := #[.int .i64 a1_0, .int .i64 a1_1, .int .i64 a1_2, .slice A1_3 l1_3.length c1_3]) (t := 24) ?hr ?_; (case hd => rfl); (case hg => rfl); (case hr => first | (go_simp; done) | (go_simp; rfl)); intro gb188 hg w60 hbox hb; have n0_ := Aside0.mk (blk_below (g := gb187) (o := .cells #[.int .i64 a0_0, .int .i64 a0_1, .int .i64 a0_2, .slice A0_3 l0_3.length c0_3] 24 (0, 0)) (by (with_reducible repeat (first | refine blk_drewN ?_ _ | refine blk_drew ?_ | refine blk_alloc ?_ _)); exact BK187.out) hb); have n1_ := Aside0.mk (below_step (by repeat (first | (with_reducible first | exact HB.out | apply below_alloc | apply pw_below_drewN | apply below_drew1 | refine below_set ?_ GE187.out) | exact HB.out)) hb); have n2_ := Aside0.mk (hbox); have n3_ := Aside0.mk ((by rw [hg]; exact (below_size (by repeat (first | (with_reducible first | exact HB.out | apply below_alloc | apply pw_below_drewN | apply below_drew1 | refine below_set ?_ GE187.out) | exact HB.out))) : w.heap.size ≤ gb188)); have n4_ := Aside0.mk ((by rw [hg]; exact (below_size (by repeat (first | (with_reducible first | exact HB.out | apply below_alloc | apply pw_below_drewN | apply below_drew1 | refine below_set ?_ GE187.out) | exact HB.out))) : w.heap.size ≤ gb188)); have n5_ := Aside0.mk ((by rw [hg]; exact Nat.ne_of_lt (blk_lt (g := gb187) (o := .cells #[.int .i64 a0_0, .int .i64 a0_1, .int .i64 a0_2, .slice A0_3 l0_3.length c0_3] 24 (0, 0)) (by (with_reducible repeat (first | refine blk_drewN ?_ _ | refine blk_drew ?_ | refine blk_alloc ?_ _)); exact BK187.out)) : gb187 ≠ gb188)); have n6_ := Aside0.mk ((by rw [hg]; exact Nat.ne_of_gt (blk_lt (g := gb187) (o := .cells #[.int .i64 a0_0, .int .i64 a0_1, .int .i64 a0_2, .slice A0_3 l0_3.length c0_3] 24 (0, 0)) (by (with_reducible repeat (first | refine blk_drewN ?_ _ | refine blk_drew ?_ | refine blk_alloc ?_ _)); exact BK187.out)) : gb188 ≠ gb187)); clear BK187; clear HB; have BK187 := n0_; have HB := n1_; have BK188 := n2_; have GW188 := n3_; have GE188 := n4_; have NB187_188 := n5_; have NB188_187 := n6_; clear n0_ n1_ n2_ n3_ n4_ n5_ n6_; clear hb hbox hg) | ((with_reducible refine gate_callee (f := 7) rfl ?_); refine goesL_ (some 9) rfl rfl Try.func7 (by kernel_rfl) rfl #[] rfl (by (try simp only [List.map_toArray, List.map_cons, List.map_nil]); first | done | rfl | (simp only [List.length_drop, List.length_take]; rfl)) ?_; (with_reducible refine (trivetlaw04_begun.calls k  false _ A3.out).mono ?_); rintro e w61 ⟨rfl, hb⟩; refine ⟨_, rfl, ?_⟩; have n0_ := Aside0.mk (blk_below (g := gb187) (o := .cells #[.int .i64 a0_0, .int .i64 a0_1, .int .i64 a0_2, .slice A0_3 l0_3.length c0_3] 24 (0, 0)) (by (with_reducible repeat (first | refine blk_drewN ?_ _ | refine blk_drew ?_ | refine blk_alloc ?_ _)); exact BK187.out) hb); have n1_ := Aside0.mk (blk_below (g := gb188) (o := .cells #[.int .i64 a1_0, .int .i64 a1_1, .int .i64 a1_2, .slice A1_3 l1_3.length c1_3] 24 (0, 0)) (by (with_reducible repeat (first | refine blk_drewN ?_ _ | refine blk_drew ?_ | refine blk_alloc ?_ _)); exact BK188.out) hb); have n2_ := Aside0.mk (below_step (by repeat (first | (with_reducible first | exact HB.out | apply below_alloc | apply pw_below_drewN | apply below_drew1 | refine below_set ?_ GE187.out | refine below_set ?_ GE188.out) | exact HB.out)) hb); clear BK187; clear BK188; clear HB; have BK187 := n0_; have BK188 := n1_; have HB := n2_; clear n0_ n1_ n2_; (try clear hb); (try clear hb2); (try clear hk); (try clear hi)))
    go_ret
    exact ⟨by first | rfl | (simp [errW_none, errW_some] <;> rfl) | (simp [*, errW_none, errW_some] <;> rfl), by repeat (first | (with_reducible first | exact HB.out | apply below_alloc | apply pw_below_drewN | apply below_drew1 | refine below_set ?_ GE187.out | refine below_set ?_ GE188.out) | exact HB.out)⟩

end Go.Proofs.Ytgiefblcckikeaa.G
end

section
/- Entries that are not the same have unlike bytes: RecordApart in plain Lean. -/
set_option maxRecDepth 100000
set_option linter.unusedVariables false
set_option linter.unusedSimpArgs false
namespace Go.Proofs.Ytgiefblcckikeaa.M
open Go.RowKit Go.Proofs.YtgiefblcckikeaaW.PrintWords Go.Proofs.Ytgiefblcckikeaa.G

/-- Bytes from whose front x is known. -/
def Pf {α : Type} (f : α → List Int) (P : α → Prop) : Prop := ∀ x y u v, P x → P y → f x ++ u = f y ++ v → x = y ∧ u = v
theorem pf_num : Pf numB isI64 := by
  intro a b u v ha hb h
  have h1 := form_back ha u
  have h2 := form_back hb v
  rw [h] at h1
  obtain rfl : a = b := h1.2.1.symm.trans h2.2.1
  exact ⟨rfl, List.append_cancel_left h⟩
theorem pf_flat {α : Type} {f : α → List Int} {P : α → Prop} (h : Pf f P) : ∀ (a b : List α) (u v : List Int), (∀ x ∈ a, P x) → (∀ x ∈ b, P x) → a.length = b.length → a.flatMap f ++ u = b.flatMap f ++ v → a = b ∧ u = v
  | [], [], u, v, _, _, _, e => ⟨rfl, e⟩
  | x :: a, y :: b, u, v, ha, hb, hl, e => by
    rw [List.flatMap_cons, List.flatMap_cons, List.append_assoc, List.append_assoc] at e
    obtain ⟨rfl, e2⟩ := h x y _ _ (ha x List.mem_cons_self) (hb y List.mem_cons_self) e
    obtain ⟨rfl, e3⟩ := pf_flat h a b u v (fun z hz => ha z (List.mem_cons_of_mem _ hz)) (fun z hz => hb z (List.mem_cons_of_mem _ hz)) (by simpa using hl) e2
    exact ⟨rfl, e3⟩
  | [], _ :: _, _, _, _, _, hl, _ => by simp at hl
  | _ :: _, [], _, _, _, _, hl, _ => by simp at hl
theorem pf_list {α : Type} {f : α → List Int} {P : α → Prop} (h : Pf f P) : Pf (fun l : List α => numB l.length ++ l.flatMap f) (fun l => l.length ≤ 1000000 ∧ ∀ x ∈ l, P x) := by
  intro a b u v ha hb e
  simp only [List.append_assoc] at e
  obtain ⟨e1, e2⟩ := pf_num _ _ _ _ (by unfold isI64; omega) (by unfold isI64; omega) e
  exact pf_flat h a b u v ha.2 hb.2 (by omega) e2
theorem pf_data : Pf (fun l : List Int => numB l.length ++ l) (fun l => l.length ≤ 1000000) := by
  intro a b u v ha hb e
  simp only [List.append_assoc] at e
  obtain ⟨e1, e2⟩ := pf_num _ _ _ _ (by unfold isI64; omega) (by unfold isI64; omega) e
  exact List.append_inj e2 (by omega)
theorem pf_key : Pf keyB (fun k => okK k = true) := by
  intro a b u v ha hb e
  have h1 := of_decide_eq_true ha
  have h2 := of_decide_eq_true hb
  have ia : isI64 a.f0 := by unfold isI64; omega
  have ib : isI64 b.f0 := by unfold isI64; omega
  have e' : numB a.f0 ++ (numB a.f1 ++ u) = numB b.f0 ++ (numB b.f1 ++ v) := by simpa [keyB, numsB] using e
  obtain ⟨e1, e2⟩ := pf_num _ _ _ _ ia ib e'
  obtain ⟨e3, e4⟩ := pf_num _ _ _ _ h1.2.2 h2.2.2 e2
  exact ⟨keyD_ext e1 e3, e4⟩
theorem txD_ext {a b : TxD} (h0 : a.f0 = b.f0) (h1 : a.f1 = b.f1) (h2 : a.f2 = b.f2) (h3 : a.f3 = b.f3) (h4 : a.f4 = b.f4) (h5 : a.f5 = b.f5) : a = b := by cases a; cases b; simp_all
theorem numsB_flat (l : List Int) : numsB l = l.flatMap numB := by
  induction l with
  | nil => rfl
  | cons a l ih => simp [numsB, ih]
def TxP1 (t : TxD) : Prop := okT t = true ∧ mayT t = true
theorem mayT_len {t : TxD} (h : mayT t = true) : t.f2.length ≤ 512 ∧ t.f3.length ≤ 8 ∧ t.f4.length ≤ 16 ∧ t.f5.length ≤ 16 := by
  unfold mayT mayK at h
  simp only [Bool.and_eq_true, decide_eq_true_eq] at h
  omega
theorem okT_all {t : TxD} (h : okT t = true) : isI64 t.f0 ∧ isI64 t.f1 ∧ okB t.f2 = true ∧ (∀ x ∈ t.f3, isI64 x) ∧ (∀ x ∈ t.f4, okK x = true) ∧ (∀ x ∈ t.f5, okK x = true) := by
  unfold okT at h
  simp only [Bool.and_eq_true, decide_eq_true_eq] at h
  obtain ⟨h0, h1, h2, h3, h4, h5⟩ := h
  refine ⟨h0, h1, h2, fun x hx => ?_, List.all_eq_true.1 h4, List.all_eq_true.1 h5⟩
  unfold okI at h3
  have := List.all_eq_true.1 h3 x hx
  simpa using this
theorem pf_tx : Pf txB TxP1 := by
  intro a b u v ha hb e
  have la := mayT_len ha.2
  have lb := mayT_len hb.2
  have oa := okT_all ha.1
  have ob := okT_all hb.1
  unfold txB keysB at e
  rw [numsB_flat, numsB_flat, numsB_flat, numsB_flat] at e
  simp only [List.flatMap_cons, List.flatMap_nil, List.append_nil, List.append_assoc] at e
  obtain ⟨e0, e⟩ := pf_num _ _ _ _ oa.1 ob.1 e
  obtain ⟨e1, e⟩ := pf_num _ _ _ _ oa.2.1 ob.2.1 e
  obtain ⟨e2, e⟩ := pf_data a.f2 b.f2 _ _ (by omega) (by omega) (by simpa only [List.append_assoc] using e)
  obtain ⟨e3, e⟩ := pf_list pf_num a.f3 b.f3 _ _ ⟨by omega, oa.2.2.2.1⟩ ⟨by omega, ob.2.2.2.1⟩ (by simpa only [List.append_assoc] using e)
  obtain ⟨e4, e⟩ := pf_list pf_key a.f4 b.f4 _ _ ⟨by omega, oa.2.2.2.2.1⟩ ⟨by omega, ob.2.2.2.2.1⟩ (by simpa only [List.append_assoc] using e)
  obtain ⟨e5, e⟩ := pf_list pf_key a.f5 b.f5 _ _ ⟨by omega, oa.2.2.2.2.2⟩ ⟨by omega, ob.2.2.2.2.2⟩ (by simpa only [List.append_assoc] using e)
  exact ⟨txD_ext e0 e1 e2 e3 e4 e5, e⟩
theorem eqS_ok {a b : List Int} (ha : okB a = true) (hb : okB b = true) : eqS a b = decide (a = b) := by
  unfold eqS
  by_cases h : a = b
  · subst h; simp
  · rw [decide_eq_false h, beq_eq_false_iff_ne]
    exact fun he => h (bytesOf_inj ha hb he)
theorem eqTx_iff {a b : TxD} (ha : okT a = true) (hb : okT b = true) : eqTx a b = true ↔ a = b := by
  unfold eqTx
  rw [eqS_ok (okT_all ha).2.2.1 (okT_all hb).2.2.1]
  simp only [Bool.and_eq_true, beq_iff_eq, decide_eq_true_eq]
  exact ⟨fun ⟨h0, h1, h2, h3, h4, h5⟩ => txD_ext h0 h1 h2 h3 h4 h5, fun h => by subst h; simp⟩
theorem eqTs_iff : ∀ {a b : List TxD}, (∀ t ∈ a, okT t = true) → (∀ t ∈ b, okT t = true) → (eqTs a b = true ↔ a = b)
  | [], [], _, _ => by simp [eqTs]
  | [], _ :: _, _, _ => by simp [eqTs]
  | _ :: _, [], _, _ => by simp [eqTs]
  | x :: a, y :: b, ha, hb => by
    unfold eqTs
    rw [Bool.and_eq_true, eqTx_iff (ha x List.mem_cons_self) (hb y List.mem_cons_self), eqTs_iff (fun t h => ha t (List.mem_cons_of_mem _ h)) (fun t h => hb t (List.mem_cons_of_mem _ h))]
    constructor
    · rintro ⟨rfl, rfl⟩; rfl
    · intro h; cases h; exact ⟨rfl, rfl⟩
theorem okE_all {k f n : Int} {l : List TxD} (h : okE k f n l = true) : isI64 k ∧ isI64 f ∧ isI64 n ∧ ∀ t ∈ l, okT t = true := by
  unfold okE at h
  simp only [Bool.and_eq_true, decide_eq_true_eq] at h
  exact ⟨h.1, h.2.1, h.2.2.1, List.all_eq_true.1 h.2.2.2⟩
theorem mayE_parts {k f n : Int} {l : List TxD} (h : mayE k f n l = true) : (k = 0 ∧ f = 0 ∧ n = 0 ∧ l = []) ∨ (k = 1 ∧ l.length ≤ 16 ∧ ∀ t ∈ l, mayT t = true) := by
  unfold mayE at h
  split at h
  · next h0 =>
    unfold eqEn at h
    simp only [Bool.and_eq_true, beq_iff_eq] at h
    refine .inl ⟨h0, h.2.1, h.2.2.1, ?_⟩
    cases l with
    | nil => rfl
    | cons a l => exact absurd h.2.2.2 (by simp [eqTs])
  · unfold inB at h
    simp only [Bool.and_eq_true, beq_iff_eq, List.all_cons, List.all_nil, decide_eq_true_eq, and_true] at h
    exact .inr ⟨h.1, by omega, List.all_eq_true.1 h.2.2.2.2⟩
theorem entB_inj {k f n : Int} {l : List TxD} {k' f' n' : Int} {l' : List TxD} (ho : okE k f n l = true) (ho' : okE k' f' n' l' = true) (hm : mayE k f n l = true) (hm' : mayE k' f' n' l' = true) :
    eqEn k f n l k' f' n' l' = decide (entB k f n l = entB k' f' n' l') := by
  obtain ⟨a0, a1, a2, a3⟩ := okE_all ho
  obtain ⟨b0, b1, b2, b3⟩ := okE_all ho'
  rw [Bool.eq_iff_iff, decide_eq_true_eq]
  have hq : eqEn k f n l k' f' n' l' = true ↔ k = k' ∧ f = f' ∧ n = n' ∧ l = l' := by
    unfold eqEn
    simp only [Bool.and_eq_true, beq_iff_eq, eqTs_iff a3 b3]
  rw [hq]
  constructor
  · rintro ⟨rfl, rfl, rfl, rfl⟩; rfl
  · intro e
    have hk : k = k' := by
      have e' : numB k ++ (if k = 0 then [] else numsB [f, n] ++ numB l.length ++ l.flatMap txB) = numB k' ++ (if k' = 0 then [] else numsB [f', n'] ++ numB l'.length ++ l'.flatMap txB) := by
        unfold entB at e
        by_cases h : k = 0
        · by_cases h' : k' = 0
          · simp only [h, h', if_true]
          · rw [if_pos h, if_neg h'] at e
            rw [if_pos h, if_neg h', h]
            simpa [List.append_assoc] using e
        · by_cases h' : k' = 0
          · rw [if_neg h, if_pos h'] at e
            rw [if_neg h, if_pos h', h']
            simpa [List.append_assoc] using e
          · rw [if_neg h, if_neg h'] at e
            rw [if_neg h, if_neg h']
            simpa [List.append_assoc] using e
      exact (pf_num _ _ _ _ a0 b0 e').1
    subst hk
    rcases mayE_parts hm with ⟨h0, rfl, rfl, rfl⟩ | ⟨h0, h1, h2⟩
    · rcases mayE_parts hm' with ⟨_, rfl, rfl, rfl⟩ | ⟨h, _⟩
      · exact ⟨rfl, rfl, rfl, rfl⟩
      · omega
    · rcases mayE_parts hm' with ⟨h, _⟩ | ⟨_, h1', h2'⟩
      · omega
      · unfold entB at e
        rw [if_neg (by omega), if_neg (by omega), numsB_flat, numsB_flat] at e
        simp only [List.flatMap_cons, List.flatMap_nil, List.append_nil, List.append_assoc] at e
        have e := List.append_cancel_left e
        obtain ⟨e1, e⟩ := pf_num _ _ _ _ a1 b1 e
        obtain ⟨e2, e⟩ := pf_num _ _ _ _ a2 b2 e
        obtain ⟨e3, _⟩ := pf_list pf_tx l l' [] [] ⟨by omega, fun t ht => ⟨a3 t ht, h2 t ht⟩⟩ ⟨by omega, fun t ht => ⟨b3 t ht, h2' t ht⟩⟩ (by simpa using e)
        exact ⟨rfl, e1, e2, e3⟩
theorem begun_f : ∃ K, ∀ k, K ≤ k → G.trivetlaw04_begun.f k = some true := by
  refine ⟨20, fun k hk => ?_⟩
  unfold G.trivetlaw04_begun.f G.trivetlaw04_simple.f
  rw [Option.bind_some]
  have e1 : G.record_Entry.f 1 2 5 [(⟨1, 3, [], [], [], []⟩ : TxD)] = some ([2, 1, 2, 2, 2, 5, 2, 1, 2, 1, 2, 3, 0, 0, 0, 0], 0) := by decide +kernel
  have e2 : G.record_TakeEntry.f [2, 1, 2, 2, 2, 5, 2, 1, 2, 1, 2, 3, 0, 0, 0, 0] = some (1, 2, 5, [(⟨1, 3, [], [], [], []⟩ : TxD)], 0) := by kernel_rfl
  have e3 : G.bytes_Equal.f [2, 1, 2, 2, 2, 5, 2, 1, 2, 1, 2, 3, 0, 0, 0, 0] [2, 1, 2, 2, 2, 5, 2, 1, 2, 1, 2, 3, 0, 0, 0, 0] = some true := by unfold G.bytes_Equal.f; simp
  have hm : ∀ t ∈ [(⟨1, 3, [], [], [], []⟩ : TxD)], mT t + [(⟨1, 3, [], [], [], []⟩ : TxD)].length + 2 < k := by
    intro t ht
    rw [List.mem_singleton.1 ht]
    show 0 + 0 + 0 + 1 + 2 < k
    omega
  have e4 := sameEn_r k 1 2 5 [(⟨1, 3, [], [], [], []⟩ : TxD)] 1 2 5 [(⟨1, 3, [], [], [], []⟩ : TxD)] hm (by show 1 + 1 < k; omega) (by decide) (by
    intro t ht
    rw [List.mem_singleton.1 ht]
    exact ⟨by decide, by decide, by decide, by decide⟩)
  have e5 : eqEn 1 2 5 [(⟨1, 3, [], [], [], []⟩ : TxD)] 1 2 5 [(⟨1, 3, [], [], [], []⟩ : TxD)] = true := by kernel_rfl
  simp only
  rw [e1, Option.bind_some, e2, Option.bind_some]
  simp only
  rw [e3, Option.bind_some, if_pos rfl, if_pos trivial, if_pos trivial, e4, e5]
  rfl
theorem entF_cases (k f n : Int) (l : List TxD) : ((entF k f n l).2 = 0 ∧ (entF k f n l).1 = entB k f n l ∧ mayE k f n l = true) ∨ ((entF k f n l).2 = 3 ∧ mayE k f n l = true) ∨ ((entF k f n l).2 = 40 ∧ mayE k f n l = false) := by
  unfold entF
  cases h : mayE k f n l with
  | true =>
    rw [if_pos rfl]
    split
    · exact .inr (.inl ⟨rfl, rfl⟩)
    · exact .inl ⟨rfl, rfl, rfl⟩
  | false =>
    rw [if_neg (by simp)]
    exact .inr (.inr ⟨rfl, rfl⟩)
theorem bound_T (l : List TxD) : ∃ M, ∀ t ∈ l, mT t ≤ M := by
  induction l with
  | nil => exact ⟨0, fun t h => by cases h⟩
  | cons a l ih =>
    obtain ⟨M, hM⟩ := ih
    refine ⟨mT a + M, fun t h => ?_⟩
    rcases List.mem_cons.1 h with rfl | h
    · omega
    · have := hM t h; omega
theorem okB_app (a b : List Int) : okB (a ++ b) = (okB a && okB b) := by unfold okB; exact List.all_append
theorem okB_flat {α : Type} {f : α → List Int} : ∀ {l : List α}, (∀ x ∈ l, okB (f x) = true) → okB (l.flatMap f) = true
  | [], _ => rfl
  | a :: l, h => by
    rw [List.flatMap_cons, okB_app, h a List.mem_cons_self, okB_flat (fun x hx => h x (List.mem_cons_of_mem _ hx))]
    rfl
theorem nat_i64 (n : Nat) (h : n ≤ 9223372036854775807) : isI64 (n : Int) := by unfold isI64; omega
theorem keysB_ok {l : List KeyD} (h : ∀ x ∈ l, okK x = true) (hl : l.length ≤ 9223372036854775807) : okB (keysB l) = true := by
  unfold keysB
  rw [okB_app, numB_ok (nat_i64 _ hl), okB_flat (f := keyB) (fun x hx => numsB_ok (okK_i x (h x hx)))]
  rfl
theorem txB_ok {t : TxD} (h : okT t = true) (hl : TxLs t) : okB (txB t) = true := by
  obtain ⟨h0, h1, h2, h3, h4, h5⟩ := okT_all h
  obtain ⟨l2, l3, l4, l5⟩ := hl
  have e3 : okI t.f3 = true := List.all_eq_true.2 (fun x hx => by simpa using h3 x hx)
  have e0 : okI [t.f0, t.f1] = true := by simp [okI, h0, h1]
  unfold txB
  rw [okB_app, okB_app, okB_app, okB_app, okB_app, okB_app, numsB_ok e0, numB_ok (nat_i64 _ (by omega)), h2, numB_ok (nat_i64 _ (by omega)), numsB_ok e3, keysB_ok h4 (by omega), keysB_ok h5 (by omega)]
  rfl
theorem entB_ok {k f n : Int} {l : List TxD} (h : okE k f n l = true) (hl : l.length ≤ 9223372036854775807) (ht : ∀ t ∈ l, TxLs t) : okB (entB k f n l) = true := by
  obtain ⟨a0, a1, a2, a3⟩ := okE_all h
  unfold entB
  split
  · exact numB_ok (by unfold isI64; omega)
  · rw [okB_app, okB_app, okB_app, numB_ok a0, numsB_ok (by simp [okI, a1, a2]), numB_ok (nat_i64 _ (by omega)), okB_flat (fun t h => txB_ok (a3 t h) (ht t h))]
    rfl
theorem apart_f (k f n : Int) (l : List TxD) (k' f' n' : Int) (l' : List TxD) (ho : okE k f n l = true) (ho' : okE k' f' n' l' = true) (hl : l.length ≤ 9223372036854775807) (hl' : l'.length ≤ 9223372036854775807) (ht : ∀ t ∈ l, TxLs t) (ht' : ∀ t ∈ l', TxLs t) :
    ∃ K, G.trivetlaw04_RecordApart.f K k f n l k' f' n' l' = some true := by
  obtain ⟨K0, h0⟩ := begun_f
  obtain ⟨M, hM⟩ := bound_T l
  obtain ⟨M', hM'⟩ := bound_T l'
  refine ⟨K0 + (M + l.length + 4) + (M' + l'.length + 4) + 1, ?_⟩
  obtain ⟨q, hq⟩ : ∃ q, K0 + (M + l.length + 4) + (M' + l'.length + 4) = q := ⟨_, rfl⟩
  rw [hq]
  have g1 : ∀ t ∈ l, mT t + l.length + 2 < q := fun t h => by have := hM t h; omega
  have g2 : ∀ t ∈ l', mT t + l'.length + 2 < q := fun t h => by have := hM' t h; omega
  have m1 := mayE_r q k f n l g1 (by omega) hl ht
  have m2 := mayE_r q k' f' n' l' g2 (by omega) hl' ht'
  have s1 := sameEn_r q k f n l k' f' n' l' g1 (by omega) (by omega) (fun t h => by have := ht t h; unfold TxLs at this; unfold TxLe; omega)
  unfold G.trivetlaw04_RecordApart.f
  rw [h0 (q + 1) (by omega), Option.bind_some, if_pos rfl]
  have r1 : G.record_Entry.f k f n l = some (entF k f n l) := by unfold G.record_Entry.f; rw [if_pos ho]
  have r2 : G.record_Entry.f k' f' n' l' = some (entF k' f' n' l') := by unfold G.record_Entry.f; rw [if_pos ho']
  rw [r1, r2, Option.bind_some, Option.bind_some]
  simp only [G.trivetlaw04_RecordApart.j0, m1, m2, s1, Option.bind_some]
  rcases entF_cases k f n l with ⟨a1, a2, a3⟩ | ⟨a1, a3⟩ | ⟨a1, a3⟩ <;> rcases entF_cases k' f' n' l' with ⟨b1, b2, b3⟩ | ⟨b1, b3⟩ | ⟨b1, b3⟩
  · simp only [a1, b1, a2, b2]
    have e := entB_inj ho ho' a3 b3
    have e6 : G.bytes_Equal.f (entB k f n l) (entB k' f' n' l') = some (decide (entB k f n l = entB k' f' n' l')) := by
      unfold G.bytes_Equal.f
      congr 1
      exact eqS_ok (entB_ok ho hl ht) (entB_ok ho' hl' ht')
    rw [e6, e]
    simp
  all_goals simp [a1, b1, a3, b3]
end Go.Proofs.Ytgiefblcckikeaa.M
end

section
/- The arguments of law04's statements, opened. -/
set_option maxRecDepth 100000
set_option linter.unusedVariables false
set_option linter.unusedSimpArgs false
namespace Go.Proofs.Ytgiefblcckikeaa.M
open Go.RowKit Go.Proofs.YtgiefblcckikeaaW.PrintWords Go.Proofs.Ytgiefblcckikeaa.G

abbrev I64 (x : Int) : Prop := (Lit.int .i64 x).wf = true
abbrev I32 (x : Int) : Prop := (Lit.int .i32 x).wf = true
abbrev U8 (x : Int) : Prop := (Lit.int .u8 x).wf = true
abbrev LenP {α : Type} (ok : α → Prop) (l : List α) : Prop := l.length ≤ 9223372036854775807 ∧ ∀ x ∈ l, ok x
def okKd (k : KeyD) : Prop := I32 k.f0 ∧ I64 k.f1
def okTd (t : TxD) : Prop := I64 t.f0 ∧ I64 t.f1 ∧ LenP U8 t.f2 ∧ LenP I64 t.f3 ∧ LenP okKd t.f4 ∧ LenP okKd t.f5
def okEd (e : S24) : Prop := I64 e.f0 ∧ I64 e.f1 ∧ I64 e.f2 ∧ LenP okTd e.f3
theorem i64_of {x : Int} (h : I64 x) : isI64 x := by
  have this : (Lit.int .i64 x).wf = true := h
  simp only [Lit.wf, Bool.and_eq_true, decide_eq_true_eq] at this
  have e1 : IntKind.i64.min = -9223372036854775808 := rfl
  have e2 : IntKind.i64.max = 9223372036854775807 := rfl
  unfold isI64
  omega
theorem i32_of {x : Int} (h : I32 x) : -2147483648 ≤ x ∧ x ≤ 2147483647 := by
  have this : (Lit.int .i32 x).wf = true := h
  simp only [Lit.wf, Bool.and_eq_true, decide_eq_true_eq] at this
  have e1 : IntKind.i32.min = -2147483648 := rfl
  have e2 : IntKind.i32.max = 2147483647 := rfl
  omega
abbrev szN (l : List Int) : Nat := szL (fun _ : Int => 1) l
abbrev szK (k : KeyD) : Nat := 1 + 1 + 1
abbrev szT (t : TxD) : Nat := 1 + (1 + (szN t.f2 + (szN t.f3 + (szL szK t.f4 + szL szK t.f5)))) + 1
abbrev szE (e : S24) : Nat := 1 + (1 + (1 + szL szT e.f3)) + 1
theorem opens_i64 : Opens Try.prog 3 (Kd.int .i64) I64 (fun _ => 1) := opens_int Try.underlying3 (by kernel_rfl)
theorem opens_j64 : Opens Try.prog 2 (Kd.int .i64) I64 (fun _ => 1) := opens_int Try.underlying2 (by kernel_rfl)
theorem opens_i32 : Opens Try.prog 21 (Kd.int .i32) I32 (fun _ => 1) := opens_int Try.underlying21 (by kernel_rfl)
theorem opens_u8 : Opens Try.prog 5 (Kd.int .u8) U8 (fun _ => 1) := opens_int Try.underlying5 (by kernel_rfl)
theorem opens_bytes : Opens Try.prog 26 (Kd.slice 5 (Kd.int .u8)) (LenP U8) szN := opens_slice Try.underlying26 (by kernel_rfl) opens_u8
theorem opens_nums : Opens Try.prog 33 (Kd.slice 2 (Kd.int .i64)) (LenP I64) szN := opens_slice Try.underlying33 (by kernel_rfl) opens_j64
theorem opens_key : Opens Try.prog 93 G.k93 okKd szK := opens_struct (d := Kd.pair (Kd.int .i32) (Kd.int .i64)) (fun x : KeyD => (x.f0, x.f1)) (fun x => ⟨x.1, x.2⟩) (fun _ => rfl) Try.underlying93 (by kernel_rfl) (opensL_cons rfl opens_i32 (opensL_one rfl opens_j64))
theorem opens_keys : Opens Try.prog 34 (Kd.slice 93 G.k93) (LenP okKd) (szL szK) := opens_slice Try.underlying34 (by kernel_rfl) opens_key
theorem opens_txn : Opens Try.prog 36 G.k36 okTd szT := opens_struct (fun x : TxD => (x.f0, x.f1, x.f2, x.f3, x.f4, x.f5)) (fun x => ⟨x.1, x.2.1, x.2.2.1, x.2.2.2.1, x.2.2.2.2.1, x.2.2.2.2.2⟩) (fun _ => rfl) Try.underlying36 (by kernel_rfl)
  (opensL_cons rfl opens_j64 (opensL_cons rfl opens_j64 (opensL_cons rfl opens_bytes (opensL_cons rfl opens_nums (opensL_cons rfl opens_keys (opensL_one rfl opens_keys))))))
theorem opens_txns : Opens Try.prog 22 (Kd.slice 36 G.k36) (LenP okTd) (szL szT) := opens_slice Try.underlying22 (by kernel_rfl) opens_txn
theorem opens_ent : Opens Try.prog 24 G.k24 okEd szE := opens_struct (fun x : S24 => (x.f0, x.f1, x.f2, x.f3)) (fun x => ⟨x.1, x.2.1, x.2.2.1, x.2.2.2⟩) (fun _ => rfl) Try.underlying24 (by kernel_rfl)
  (opensL_cons rfl opens_i64 (opensL_cons rfl opens_i64 (opensL_cons rfl opens_j64 (opensL_one rfl opens_txns))))
theorem okT_of {t : TxD} (h : okTd t) : okT t = true ∧ TxLs t := by
  obtain ⟨h0, h1, h2, h3, h4, h5⟩ := h
  have k4 : ∀ x : KeyD, okKd x → okK x = true := fun x hx => by
    obtain ⟨a, b⟩ := hx
    have a := i32_of a
    unfold okK
    exact decide_eq_true ⟨a.1, a.2, i64_of b⟩
  have i0 : isI64 t.f0 := i64_of h0
  have i1 : isI64 t.f1 := i64_of h1
  refine ⟨?_, h2.1, h3.1, h4.1, h5.1⟩
  unfold okT
  rw [decide_eq_true i0, decide_eq_true i1, okI_of_wf h3.2, List.all_eq_true.2 (fun x hx => k4 x (h4.2 x hx)), List.all_eq_true.2 (fun x hx => k4 x (h5.2 x hx))]
  rw [okB_of_wf h2.2]
  rfl
theorem okE_of {e : S24} (h : okEd e) : okE e.f0 e.f1 e.f2 e.f3 = true ∧ e.f3.length ≤ 9223372036854775807 ∧ ∀ t ∈ e.f3, TxLs t := by
  obtain ⟨h0, h1, h2, h3⟩ := h
  have i0 : isI64 e.f0 := i64_of h0
  have i1 : isI64 e.f1 := i64_of h1
  have i2 : isI64 e.f2 := i64_of h2
  refine ⟨?_, h3.1, fun t ht => (okT_of (h3.2 t ht)).2⟩
  unfold okE
  rw [decide_eq_true i0, decide_eq_true i1, decide_eq_true i2, List.all_eq_true.2 (fun t ht => (okT_of (h3.2 t ht)).1)]
  rfl
end Go.Proofs.Ytgiefblcckikeaa.M
end

section
-- Written by a program of this session's (wip/gprint.py over the kit's printer).
namespace Go.Proofs.Ytgiefblcckikeaa.G
open Go.RowKit Go.Proofs.YtgiefblcckikeaaW.PrintWords Go.Proofs.YtgiefblcckikeaaW.PrintLast Go.Proofs.YtgiefblcckikeaaW.PrintMore
attribute [local go_sem] max2_int min2_int max_two min_two max_three min_three max_four min_four   -- for this text's walks alone
set_option linter.unusedVariables false
set_option linter.unusedSimpArgs false

/-! ### trivetref04_Errno: function 40 -/
def trivetref04_Errno.f (a0 : Bool) : Option (Int) := if a0 = true then (some 0) else (some 40)
set_option maxHeartbeats 8000000 in
set_option maxRecDepth 100000 in
theorem trivetref04_Errno.calls (a0 : Bool) (r : Int) (w : World) (h : trivetref04_Errno.f a0 = some r) :
    Calls Try.prog 40 #[.bool a0] w fun e w' => e = .returned (.int .i64 r) ∧ Drawn0 w w' := by
  have H : (if a0 = true then (some 0) else (some 40)) = some r := h
  clear h
  by_cases c2 : a0 = true
  · subst c2
    have H1 : (some 0) = some r := by rw [if_pos rfl] at H; exact H
    clear H
    have H := H1
    clear H1
    obtain rfl := Option.some.inj H
    go_enter Try.func40, Try.ntmps40
    go_wp2
    go_ret
    exact ⟨by first | rfl | (simp; done) | (simp [*]; done), by repeat (first | exact Drawn0.refl _ | apply Drawn0.step)⟩
  · replace c2 := Bool.eq_false_iff.mpr c2
    subst c2
    have H1 : (some 40) = some r := by rw [if_neg (show ¬ (false = true) by decide)] at H; exact H
    clear H
    have H := H1
    clear H1
    obtain rfl := Option.some.inj H
    go_enter Try.func40, Try.ntmps40
    go_wp2
    go_ret
    exact ⟨by first | rfl | (simp; done) | (simp [*]; done), by repeat (first | exact Drawn0.refl _ | apply Drawn0.step)⟩

/-! ### trivetref04_CheckTxn: function 13 -/
def trivetref04_CheckTxn.f (k : Nat) (a0_0 : Int) (a0_1 : Int) (l0_2 : List Int) (l0_3 : List Int) (l0_4 : List (S93)) (l0_5 : List (S93)) : Option (Int) := (trivetref04_MayTxn.f k a0_0 a0_1 l0_2 l0_3 l0_4 l0_5).bind fun t226 => ((trivetref04_Errno.f t226).bind fun t227 => (some t227))
theorem trivetref04_CheckTxn.mono : ∀ a0 a1 a2 a3 a4 a5 k, LeO (trivetref04_CheckTxn.f k a0 a1 a2 a3 a4 a5) (trivetref04_CheckTxn.f (k + 1) a0 a1 a2 a3 a4 a5) := by
  intro a0 a1 a2 a3 a4 a5 k
  unfold trivetref04_CheckTxn.f
  repeat' first
      | (with_reducible exact trivetref04_MayTxn.mono _ _ _ _ _ _ _)
      | (with_reducible exact LeO.refl _)
      | (with_reducible exact LeO.none _)
      | (with_reducible refine LeO.ite ?_ ?_)
      | (with_reducible refine LeO.bind ?_ (fun _ => ?_))
      | exact trivetref04_MayTxn.mono _ _ _ _ _ _ _
      | exact LeO.none _
      | refine LeO.ite ?_ ?_
      | refine LeO.bind ?_ (fun _ => ?_)
set_option maxHeartbeats 8000000 in
set_option maxRecDepth 100000 in
theorem trivetref04_CheckTxn.calls (k : Nat) (a0_0 : Int) (a0_1 : Int) (A0_2 : Option Addr) (c0_2 : Nat) (l0_2 : List Int) (A0_3 : Option Addr) (c0_3 : Nat) (l0_3 : List Int) (A0_4 : Option Addr) (c0_4 : Nat) (l0_4 : List (S93)) (A0_5 : Option Addr) (c0_5 : Nat) (l0_5 : List (S93)) (r : Int) (w : World) (hr0_2 : Kd.C (Kd.int .u8) w A0_2 l0_2.length l0_2) (hc0_2 : l0_2.length ≤ c0_2) (hr0_3 : Kd.C (Kd.int .i64) w A0_3 l0_3.length l0_3) (hc0_3 : l0_3.length ≤ c0_3) (hr0_4 : Kd.C k93 w A0_4 l0_4.length l0_4) (hc0_4 : l0_4.length ≤ c0_4) (hr0_5 : Kd.C k93 w A0_5 l0_5.length l0_5) (hc0_5 : l0_5.length ≤ c0_5) (h : trivetref04_CheckTxn.f k a0_0 a0_1 l0_2 l0_3 l0_4 l0_5 = some r) :
    Calls Try.prog 13 #[.agg #[.int .i64 a0_0, .int .i64 a0_1, .slice A0_2 l0_2.length c0_2, .slice A0_3 l0_3.length c0_3, .slice A0_4 l0_4.length c0_4, .slice A0_5 l0_5.length c0_5]] w fun e w' => e = .returned (.int .i64 r) ∧ Below w.heap.size w w' := by
  have hu36 := Try.underlying36
  have HR0_2 := Aside0.mk hr0_2
  have HC0_2 := Aside0.mk hc0_2
  clear hr0_2 hc0_2
  have HR0_3 := Aside0.mk hr0_3
  have HC0_3 := Aside0.mk hc0_3
  clear hr0_3 hc0_3
  have HR0_4 := Aside0.mk hr0_4
  have HC0_4 := Aside0.mk hc0_4
  clear hr0_4 hc0_4
  have HR0_5 := Aside0.mk hr0_5
  have HC0_5 := Aside0.mk hc0_5
  clear hr0_5 hc0_5
  have HB := Aside0.mk (Below.refl w.heap.size w)
  have H : ((trivetref04_MayTxn.f k a0_0 a0_1 l0_2 l0_3 l0_4 l0_5).bind fun t226 => ((trivetref04_Errno.f t226).bind fun t227 => (some t227))) = some r := h
  clear h
  replace H := Option.bind_eq_some_iff.mp H
  obtain ⟨t226, A20, H⟩ := H
  replace H : ((trivetref04_Errno.f t226).bind fun t227 => (some t227)) = some r := H
  have A2 := Aside0.mk A20
  clear A20
  replace H := Option.bind_eq_some_iff.mp H
  obtain ⟨t227, A30, H⟩ := H
  replace H : (some t227) = some r := H
  have A3 := Aside0.mk A30
  clear A30
  obtain rfl := Option.some.inj H
  go_enter Try.func13, Try.ntmps13
  go_wp2_with (first | ((with_reducible refine gate_dst (N := 1) rfl ?_); refine box_event ?hg (N := 1) ?hd (cs := #[.int .i64 a0_0, .int .i64 a0_1, .slice A0_2 l0_2.length c0_2, .slice A0_3 l0_3.length c0_3, .slice A0_4 l0_4.length c0_4, .slice A0_5 l0_5.length c0_5]) (t := 36) ?hr ?_; (case hd => rfl); (case hg => rfl); (case hr => first | (go_simp; done) | (go_simp; rfl)); intro gb225 hg w4 hbox hb; have n0_ := Aside0.mk (below_step (by repeat (first | (with_reducible first | exact HB.out | apply below_alloc | apply pw_below_drewN | apply below_drew1) | exact HB.out)) hb); have n1_ := Aside0.mk (hbox); have n2_ := Aside0.mk ((by rw [hg]; exact (below_size (by repeat (first | (with_reducible first | exact HB.out | apply below_alloc | apply pw_below_drewN | apply below_drew1) | exact HB.out))) : w.heap.size ≤ gb225)); have n3_ := Aside0.mk ((by rw [hg]; exact (below_size (by repeat (first | (with_reducible first | exact HB.out | apply below_alloc | apply pw_below_drewN | apply below_drew1) | exact HB.out))) : w.heap.size ≤ gb225)); clear HB; have HB := n0_; have BK225 := n1_; have GW225 := n2_; have GE225 := n3_; clear n0_ n1_ n2_ n3_; clear hb hbox hg; have hcz5_0 : w4.cell? ⟨gb225, 0, none⟩ = some (.int .i64 a0_0) := (blk_cell BK225.out 0).trans rfl; have hcz5_1 : w4.cell? ⟨gb225, 1, none⟩ = some (.int .i64 a0_1) := (blk_cell BK225.out 1).trans rfl; have hcz5_2 : w4.cell? ⟨gb225, 2, none⟩ = some (.slice A0_2 l0_2.length c0_2) := (blk_cell BK225.out 2).trans rfl; have hcz5_3 : w4.cell? ⟨gb225, 3, none⟩ = some (.slice A0_3 l0_3.length c0_3) := (blk_cell BK225.out 3).trans rfl; have hcz5_4 : w4.cell? ⟨gb225, 4, none⟩ = some (.slice A0_4 l0_4.length c0_4) := (blk_cell BK225.out 4).trans rfl; have hcz5_5 : w4.cell? ⟨gb225, 5, none⟩ = some (.slice A0_5 l0_5.length c0_5) := (blk_cell BK225.out 5).trans rfl; have hfz5_0 := blk_frozen BK225.out 0; have hfz5_1 := blk_frozen BK225.out 1; have hfz5_2 := blk_frozen BK225.out 2; have hfz5_3 := blk_frozen BK225.out 3; have hfz5_4 := blk_frozen BK225.out 4; have hfz5_5 := blk_frozen BK225.out 5) | ((with_reducible refine gate_callee (f := 21) rfl ?_); refine goesL_ (some 4) rfl rfl Try.func21 (by kernel_rfl) rfl #[.agg #[.int .i64 a0_0, .int .i64 a0_1, .slice A0_2 l0_2.length c0_2, .slice A0_3 l0_3.length c0_3, .slice A0_4 l0_4.length c0_4, .slice A0_5 l0_5.length c0_5]] rfl (by (try simp only [List.map_toArray, List.map_cons, List.map_nil]); first | done | rfl | (simp only [List.length_drop, List.length_take]; rfl)) ?_; (with_reducible refine (trivetref04_MayTxn.calls k a0_0 a0_1 _ _ l0_2 _ _ l0_3 _ _ l0_4 _ _ l0_5 t226 _ ?side1 ?side2 ?side3 ?side4 ?side5 ?side6 ?side7 ?side8 A2.out).mono ?_); (case side1 => repeat (first | exact (Kd.C_below HR0_2.out HB.out) | (with_reducible refine Kd.C_alloc ?_ _) | (with_reducible refine Kd.C_drewN ?_ _) | (with_reducible refine Kd.C_drew ?_))); (case side2 => exact HC0_2.out); (case side3 => repeat (first | exact (Kd.C_below HR0_3.out HB.out) | (with_reducible refine Kd.C_alloc ?_ _) | (with_reducible refine Kd.C_drewN ?_ _) | (with_reducible refine Kd.C_drew ?_))); (case side4 => exact HC0_3.out); (case side5 => repeat (first | exact (Kd.C_below HR0_4.out HB.out) | (with_reducible refine Kd.C_alloc ?_ _) | (with_reducible refine Kd.C_drewN ?_ _) | (with_reducible refine Kd.C_drew ?_))); (case side6 => exact HC0_4.out); (case side7 => repeat (first | exact (Kd.C_below HR0_5.out HB.out) | (with_reducible refine Kd.C_alloc ?_ _) | (with_reducible refine Kd.C_drewN ?_ _) | (with_reducible refine Kd.C_drew ?_))); (case side8 => exact HC0_5.out); rintro e w6 ⟨rfl, hb⟩; refine ⟨_, rfl, ?_⟩; have n0_ := Aside0.mk (blk_below (g := gb225) (o := .cells #[.int .i64 a0_0, .int .i64 a0_1, .slice A0_2 l0_2.length c0_2, .slice A0_3 l0_3.length c0_3, .slice A0_4 l0_4.length c0_4, .slice A0_5 l0_5.length c0_5] 36 (0, 0)) (by (with_reducible repeat (first | refine blk_drewN ?_ _ | refine blk_drew ?_ | refine blk_alloc ?_ _)); exact BK225.out) hb); have n1_ := Aside0.mk (below_step (by repeat (first | (with_reducible first | exact HB.out | apply below_alloc | apply pw_below_drewN | apply below_drew1 | refine below_set ?_ GE225.out) | exact HB.out)) hb); clear BK225; clear HB; have BK225 := n0_; have HB := n1_; clear n0_ n1_; (try clear hb); (try clear hb2); (try clear hk); (try clear hi)) | ((with_reducible refine gate_callee (f := 40) rfl ?_); refine goesL_ (some 5) rfl rfl Try.func40 (by kernel_rfl) rfl #[.bool t226] rfl (by (try simp only [List.map_toArray, List.map_cons, List.map_nil]); first | done | rfl | (simp only [List.length_drop, List.length_take]; rfl)) ?_; (with_reducible refine (trivetref04_Errno.calls t226 t227 _ A3.out).mono ?_); rintro e w' ⟨rfl, ⟨nd, rfl⟩⟩; refine ⟨_, rfl, ?_⟩))
  go_ret
  exact ⟨by first | rfl | (simp [errW_none, errW_some] <;> rfl) | (simp [*, errW_none, errW_some] <;> rfl), by repeat (first | (with_reducible first | exact HB.out | apply below_alloc | apply pw_below_drewN | apply below_drew1 | refine below_set ?_ GE225.out) | exact HB.out)⟩

/-! ### trivetref01_Num: function 99 -/
mutual
def trivetref01_Num.j0 : Nat → Int → Int → Option (List Int)
  | 0, _, _ => none
  | k + 1, x3, x4 => trivetref01_Num.l0 k x3 x4 ([] : List Int)
def trivetref01_Num.l0 : Nat → Int → Int → List Int → Option (List Int)
  | 0, _, _, _ => none
  | k + 1, x3, x4, x5 => if x3 > 0 then (if x5.length < 140737488355328 then (trivetref01_Num.l0 k (IntKind.u64.wrap (Int.tdiv x3 256)) x4 (x5 ++ [(Int.tmod x3 256) % 256])) else (none)) else ((some (([(((wrap64 (2 * (x5.length : Int))) % 256) + x4) % 256] : List Int) : List Int)).bind fun y231 => (if y231.length + x5.length < 140737488355328 then (some (y231 ++ x5)) else (none)))
end
def trivetref01_Num.f (k : Nat) (a0 : Int) : Option (List Int) := if a0 < 0 then (trivetref01_Num.j0 k (IntKind.u64.wrap ((IntKind.u64.wrap (wrap64 (-(wrap64 (a0 + 1))))) + 1)) 1) else (trivetref01_Num.j0 k (IntKind.u64.wrap (a0)) 0)
theorem trivetref01_Num.mono_l : ∀ k, (∀ y0 y1, LeO (trivetref01_Num.j0 k y0 y1) (trivetref01_Num.j0 (k + 1) y0 y1)) ∧ (∀ y0 y1 y2, LeO (trivetref01_Num.l0 k y0 y1 y2) (trivetref01_Num.l0 (k + 1) y0 y1 y2))
  | 0 => ⟨fun _ _ r h => by simp [trivetref01_Num.j0] at h, fun _ _ _ r h => by simp [trivetref01_Num.l0] at h⟩
  | k + 1 => by
    obtain ⟨ih0, ih1⟩ := trivetref01_Num.mono_l k
    refine ⟨?_, ?_⟩
    · intro y0 y1
      unfold trivetref01_Num.j0
      repeat' first
      | (with_reducible exact ih0 _ _)
      | (with_reducible exact ih1 _ _ _)
      | (with_reducible exact LeO.refl _)
      | (with_reducible exact LeO.none _)
      | (with_reducible refine LeO.ite ?_ ?_)
      | (with_reducible refine LeO.bind ?_ (fun _ => ?_))
      | exact ih0 _ _
      | exact ih1 _ _ _
      | exact LeO.none _
      | refine LeO.ite ?_ ?_
      | refine LeO.bind ?_ (fun _ => ?_)
    · intro y0 y1 y2
      unfold trivetref01_Num.l0
      repeat' first
      | (with_reducible exact ih0 _ _)
      | (with_reducible exact ih1 _ _ _)
      | (with_reducible exact LeO.refl _)
      | (with_reducible exact LeO.none _)
      | (with_reducible refine LeO.ite ?_ ?_)
      | (with_reducible refine LeO.bind ?_ (fun _ => ?_))
      | exact ih0 _ _
      | exact ih1 _ _ _
      | exact LeO.none _
      | refine LeO.ite ?_ ?_
      | refine LeO.bind ?_ (fun _ => ?_)
theorem trivetref01_Num.mono : ∀ a0 k, LeO (trivetref01_Num.f k a0) (trivetref01_Num.f (k + 1) a0) := by
  intro a0 k
  obtain ⟨ih0, ih1⟩ := trivetref01_Num.mono_l k
  unfold trivetref01_Num.f
  repeat' first
      | (with_reducible exact ih0 _ _)
      | (with_reducible exact ih1 _ _ _)
      | (with_reducible exact LeO.refl _)
      | (with_reducible exact LeO.none _)
      | (with_reducible refine LeO.ite ?_ ?_)
      | (with_reducible refine LeO.bind ?_ (fun _ => ?_))
      | exact ih0 _ _
      | exact ih1 _ _ _
      | exact LeO.none _
      | refine LeO.ite ?_ ?_
      | refine LeO.bind ?_ (fun _ => ?_)
set_option maxHeartbeats 8000000 in
set_option maxRecDepth 100000 in
theorem trivetref01_Num.calls (k : Nat) (a0 : Int) (r : List Int) (w : World) (h : trivetref01_Num.f k a0 = some r) :
    Calls Try.prog 99 #[.int .i64 a0] w fun e w' => ∃ v0_ : Value, e = .returned (v0_) ∧ Kd.R (Kd.int .u8) 5 w' w.heap.size (fun _ => True) v0_ r ∧ Below w.heap.size w w' := by
  have HB := Aside0.mk (Below.refl w.heap.size w)
  have H : (if a0 < 0 then (trivetref01_Num.j0 k (IntKind.u64.wrap ((IntKind.u64.wrap (wrap64 (-(wrap64 (a0 + 1))))) + 1)) 1) else (trivetref01_Num.j0 k (IntKind.u64.wrap (a0)) 0)) = some r := h
  clear h
  have HC2 := Aside0.mk H
  clear H
  go_enter Try.func99, Try.ntmps99
  go_upto_if 10 with (fail)
  go_cut [3, 4] (fun v3 v4 wc => ∃ (kq : Nat) (x3_1 : Int) (x4_1 : Int), v3 = .int .u64 x3_1 ∧ v4 = .int .u8 x4_1 ∧ Aside0 (trivetref01_Num.j0 kq x3_1 x4_1 = some r) ∧ Aside0 (kq ≤ k) ∧ Aside0 (Below w.heap.size w wc))
  case first =>
    have H := HC2.out
    clear HC2
    by_cases c3 : a0 < 0
    · rw [if_pos c3] at H
      have c3b0 : decide (a0 < 0) = true := decide_eq_true c3
      clear c3
      (first | rw [c3b0] | (simp only [i64_w, i32_w]; rw [c3b0]) | skip)
      have H' := Aside0.mk H
      clear H
      go_wp2
      go_meet
      case rel => exact ⟨_, (IntKind.u64.wrap ((IntKind.u64.wrap (wrap64 (-(wrap64 (a0 + 1))))) + 1)), (1), (by first | rfl | (simp; done) | (simp [*]; done)), (by first | rfl | (simp; done) | (simp [*]; done)), H', ⟨by first | omega | exact Nat.le_refl _⟩, ⟨by repeat (first | (with_reducible first | exact HB.out | apply below_alloc | apply pw_below_drewN | apply below_drew1) | exact HB.out)⟩⟩
    · rw [if_neg c3] at H
      have c3b0 : decide (a0 < 0) = false := decide_eq_false c3
      clear c3
      (first | rw [c3b0] | (simp only [i64_w, i32_w]; rw [c3b0]) | skip)
      have H' := Aside0.mk H
      clear H
      go_wp2
      go_meet
      case rel => exact ⟨_, (IntKind.u64.wrap (a0)), (0), (by first | rfl | (simp; done) | (simp [*]; done)), (by first | rfl | (simp; done) | (simp [*]; done)), H', ⟨by first | omega | exact Nat.le_refl _⟩, ⟨by repeat (first | (with_reducible first | exact HB.out | apply below_alloc | apply pw_below_drewN | apply below_drew1) | exact HB.out)⟩⟩
  case rest =>
    clear HC2
    try clear p2
    try clear c3
    try clear c3b0
    obtain ⟨kq, x3_1, x4_1, rfl, rfl, HA, HJ1, HB⟩ := hcut
    cases kq with
    | zero => exact absurd HA.out (by simp [trivetref01_Num.j0])
    | succ kj1 =>
      have H := HA.out
      clear HA
      simp only [trivetref01_Num.j0] at H
      have H' := Aside0.mk H
      clear H
      go_wp2
      go_loopg [3, 5] kj1 (fun kq v3 v5 w' => ∃ (x3_2 : Int) (x5_2 : List Int), v3 = .int .u64 x3_2 ∧ Aside0 (trivetref01_Num.l0 kq x3_2 x4_1 x5_2 = some r) ∧ Aside0 (kq ≤ kj1) ∧ Aside0 (Kd.R (Kd.int .u8) 5 w' w.heap.size (fun _ => True) v5 x5_2) ∧ Aside0 (Below w.heap.size w w'))
      case atStart => exact ⟨(x3_1), (([] : List Int)), (by first | rfl | (simp; done) | (simp [*]; done)), H', ⟨Nat.le_refl _⟩, ⟨by first | exact Kd.R_nil _ _ _ _ _ | exact Kd.N_nil _ _ _ _ _ | exact Kd.V_nil _ _ _ _ _ | exact Kd.Q_nil _ _ _ _ _ | exact Kd.S_nil _ _ _ _ _⟩, ⟨by repeat (first | (with_reducible first | exact HB.out | apply below_alloc | apply pw_below_drewN | apply below_drew1) | exact HB.out)⟩⟩
      case round =>
        clear H'
        try clear p2
        try clear c3
        try clear c3b0
        try clear p2
        obtain ⟨x3_2, x5_2, rfl, HA, HK2, HO_5, HB⟩ := hrel
        cases gk with
        | zero => exact absurd HA.out (by simp [trivetref01_Num.l0])
        | succ k2 =>
          have H := HA.out
          clear HA
          simp only [trivetref01_Num.l0] at H
          by_cases c4 : x3_2 > 0
          · rw [if_pos c4] at H
            have c4b0 : decide (0 < x3_2) = true := decide_eq_true c4
            clear c4
            by_cases c5 : x5_2.length < 140737488355328
            · rw [if_pos c5] at H
              have LMc5 := Aside0.mk c5
              clear c5
              obtain ⟨y228, hy228⟩ : ∃ y_ : List Int, y_ = (x5_2 ++ [(Int.tmod x3_2 256) % 256]) := ⟨_, rfl⟩
              replace H : (trivetref01_Num.l0 k2 (IntKind.u64.wrap (Int.tdiv x3_2 256)) x4_1 y228) = some r := by first | (rw [hy228]; with_reducible exact H) | (have H2_ := (Option.bind_some _ _).symm.trans H; rw [hy228]; with_reducible exact H2_) | (have H2_ := (Option.bind_some _ _).symm.trans H; with_reducible exact H2_) | with_reducible exact H | (rw [hy228]; exact H) | exact H
              have Ny228 := Aside0.mk hy228
              clear hy228
              have H' := Aside0.mk H
              clear H
              go_wp2_with (first | ((with_reducible refine gate_builtin (b := .append) (xs := #[.tmp 18, .tmp 22]) rfl ?_); at_builtin; refine Kd.R_append (Kd.int .u8) (w0 := w) w.heap.size rfl (.tmp 18) (.tmp 22) 26 5 (.int .u8 0) 1 rfl Try.underlying26 info5 rfl (by decide) (by omega) u5 x5_2 ((Int.tmod x3_2 256) % 256) [.int .u8 ((Int.tmod x3_2 256) % 256)] (fun _ => True) (fun _ => False) rfl rfl ?aP (fun _ hk => hk.elim) ?aF ?aO ?aB ?aS ?aL ?_; (case aP => exact rfl); (case aB => exact (by repeat (first | (with_reducible first | exact HB.out | apply below_alloc | apply pw_below_drewN | apply below_drew1) | exact HB.out))); (case aF => exact (fun _ _ => trivial)); (case aO => exact (by (with_reducible repeat (first | apply Kd.R_alloc | apply Kd.R_drewN | apply Kd.R_drew)); exact HO_5.out)); (case aS => exact (below_size (by repeat (first | (with_reducible first | exact HB.out | apply below_alloc | apply pw_below_drewN | apply below_drew1) | exact HB.out)))); (case aL => have := LMc5.out; omega); intro v229 w6 ho hb hg hat; rw [← Ny228.out] at ho; have n0_ := Aside0.mk (hb); have n1_ := Aside0.mk (ho); clear HB; clear HO_5; have HB := n0_; have HO230 := n1_; clear n0_ n1_; clear ho hb hg hat))
              go_roundg k2
              case measure => have := HJ1.out; have := HK2.out; omega
              case rel => exact ⟨(IntKind.u64.wrap (Int.tdiv x3_2 256)), (y228), (by first | rfl | (simp; done) | (simp [*]; done)), H', ⟨by have := HJ1.out; have := HK2.out; omega⟩, ⟨by (with_reducible repeat (first | apply Kd.R_alloc | apply Kd.R_drewN | apply Kd.R_drew)); exact HO230.out⟩, ⟨by repeat (first | (with_reducible first | exact HB.out | apply below_alloc | apply pw_below_drewN | apply below_drew1) | exact HB.out)⟩⟩
            · rw [if_neg c5] at H
              exact absurd H (by simp)
          · rw [if_neg c4] at H
            have c4b0 : decide (0 < x3_2) = false := decide_eq_false c4
            clear c4
            obtain ⟨y231, hy231⟩ : ∃ y_ : List Int, y_ = (([(((wrap64 (2 * (x5_2.length : Int))) % 256) + x4_1) % 256] : List Int)) := ⟨_, rfl⟩
            replace H : (if y231.length + x5_2.length < 140737488355328 then (some (y231 ++ x5_2)) else (none)) = some r := by first | (rw [hy231]; with_reducible exact H) | (have H2_ := (Option.bind_some _ _).symm.trans H; rw [hy231]; with_reducible exact H2_) | (have H2_ := (Option.bind_some _ _).symm.trans H; with_reducible exact H2_) | with_reducible exact H | (rw [hy231]; exact H) | exact H
            have Ny231 := Aside0.mk hy231
            clear hy231
            by_cases c7 : y231.length + x5_2.length < 140737488355328
            · rw [if_pos c7] at H
              have LMc7 := Aside0.mk c7
              clear c7
              obtain ⟨y234, hy234⟩ : ∃ y_ : List Int, y_ = (y231 ++ x5_2) := ⟨_, rfl⟩
              replace H : (some y234) = some r := by first | (rw [hy234]; with_reducible exact H) | (have H2_ := (Option.bind_some _ _).symm.trans H; rw [hy234]; with_reducible exact H2_) | (have H2_ := (Option.bind_some _ _).symm.trans H; with_reducible exact H2_) | with_reducible exact H | (rw [hy234]; exact H) | exact H
              have Ny234 := Aside0.mk hy234
              clear hy234
              obtain rfl := Option.some.inj H
              obtain ⟨Ao8, co8, eo8⟩ := Kd.R_slice HO_5.out
              subst eo8
              go_wp2_with (first | ((with_reducible refine gate_dst (N := 32) rfl ?_); refine Kd.R_lit (Kd.int .u8) _ 5 ?hg (N := 32) ?hd (xs := ([(((wrap64 (2 * (x5_2.length : Int))) % 256) + x4_1) % 256] : List Int)) (inner := [.int .u8 ((((wrap64 (2 * (x5_2.length : Int))) % 256) + x4_1) % 256)]) (ok := fun _ => True) (okp := fun _ => True) ?hr ?hp (fun _ hk => hk) trivial (Below.refl _ _) (Nat.le_refl _) (by simp) ?_; (case hd => rfl); (case hg => rfl); (case hr => first | (go_simp; done) | (go_simp; rfl)); (case hp => exact (Reps.one (show Kd.M (Kd.int .u8) _ _ _ ((((wrap64 (2 * (x5_2.length : Int))) % 256) + x4_1) % 256) [.int .u8 ((((wrap64 (2 * (x5_2.length : Int))) % 256) + x4_1) % 256)] from rfl) (Reps.none _ _))); intro v232 w9 ho10 hb hg_ hnew_; clear hg_ hnew_; (first | rw [← Ny231.out] at ho10 | (simp only [Int.reduceToNat] at ho10; rw [← Ny231.out] at ho10)); have n0_ := Aside0.mk (Kd.R_elder' (by (with_reducible repeat (first | apply Kd.R_alloc | apply Kd.R_drewN | apply Kd.R_drew)); exact HO_5.out) (Kd.R_base ho10) hb); have n1_ := Aside0.mk (Kd.R_lower (Kd.R_new' ho10 (Kd.R_lt (by (with_reducible repeat (first | apply Kd.R_alloc | apply Kd.R_drewN | apply Kd.R_drew)); exact HO_5.out))) (below_size (by repeat (first | (with_reducible first | exact HB.out | apply below_alloc | apply pw_below_drewN | apply below_drew1) | exact HB.out)))); have n2_ := Aside0.mk (below_step (by repeat (first | (with_reducible first | exact HB.out | apply below_alloc | apply pw_below_drewN | apply below_drew1) | exact HB.out)) hb); clear HO_5; clear HB; have HO_5 := n0_; have HO233 := n1_; have HB := n2_; clear n0_ n1_ n2_; clear hb ho10) | ((with_reducible refine gate_builtin (b := .append) (xs := #[.tmp 33, .tmp 34]) rfl ?_); at_builtin; refine Kd.R_append_rows (Kd.int .u8) (w0 := w) w.heap.size rfl (.tmp 33) (.tmp 34) 26 5 (.int .u8 0) 1 rfl Try.underlying26 info5 rfl (by decide) (by omega) v232 y231 x5_2 _ _ _ (fun k_ => some k_ ≠ (.slice Ao8 x5_2.length co8 : Value).ownBlock) (fun _ => False) rfl rfl ?aO ?aR (fun _ _ h => h) (fun _ h => h.elim) ?aF ?aB ?aS ?aL ?_; (case aR => repeat (first | exact (Kd.R_reads' HO_5.out).2.2 | (with_reducible refine Kd.C_alloc ?_ _) | (with_reducible refine Kd.C_drewN ?_ _) | (with_reducible refine Kd.C_drew ?_))); (case aB => exact (by repeat (first | (with_reducible first | exact HB.out | apply below_alloc | apply pw_below_drewN | apply below_drew1) | exact HB.out))); (case aF => exact (fun k_ hk => Kd.fresh' (Kd.R_lt (by (with_reducible repeat (first | apply Kd.R_alloc | apply Kd.R_drewN | apply Kd.R_drew)); exact HO_5.out)) k_ hk)); (case aO => exact (by (with_reducible repeat (first | apply Kd.R_alloc | apply Kd.R_drewN | apply Kd.R_drew)); exact Kd.R_mono HO233.out (fun _ hk => hk.2))); (case aS => exact (below_size (by repeat (first | (with_reducible first | exact HB.out | apply below_alloc | apply pw_below_drewN | apply below_drew1) | exact HB.out)))); (case aL => have := LMc7.out; omega); intro v235 w11 ho hb hg hat; rw [← Ny234.out] at ho; have n0_ := Aside0.mk (Kd.R_after (ok := (fun _ => True)) (by (with_reducible repeat (first | apply Kd.R_alloc | apply Kd.R_drewN | apply Kd.R_drew)); exact HO_5.out) hg hat); have n1_ := Aside0.mk (hb); have n2_ := Aside0.mk (ho); clear HO_5; clear HB; clear HO233; have HO_5 := n0_; have HB := n1_; have HO236 := n2_; clear n0_ n1_ n2_; clear ho hb hg hat))
              go_ret
              exact ⟨_, by first | rfl | (simp [errW_none, errW_some] <;> rfl) | (simp [*, errW_none, errW_some] <;> rfl), by (with_reducible repeat (first | apply Kd.R_alloc | apply Kd.R_drewN | apply Kd.R_drew)); exact Kd.R_mono HO236.out (fun _ hk => trivial), by repeat (first | (with_reducible first | exact HB.out | apply below_alloc | apply pw_below_drewN | apply below_drew1) | exact HB.out)⟩
            · rw [if_neg c7] at H
              exact absurd H (by simp)

/-! ### trivetref01_Put: function 74 -/
def trivetref01_Put.l0 : Nat → List Int → List Int → Int → Option (List Int)
  | 0, _, _, _ => none
  | k + 1, x1, x5, x6 => if x6 < (x1.length : Int) then (if 0 ≤ x6 then ((trivetref01_Num.f k (rd x1 x6)).bind fun t241 => (if x5.length + t241.length < 140737488355328 then (trivetref01_Put.l0 k x1 (x5 ++ t241) (wrap64 (x6 + 1))) else (none))) else (none)) else (some x5)
def trivetref01_Put.f (k : Nat) (l0 : List Int) (l1 : List Int) : Option (List Int) := if ([] : List Int).length + l0.length < 140737488355328 then (trivetref01_Put.l0 k l1 (([] : List Int) ++ l0) 0) else (none)
theorem trivetref01_Put.mono_l : ∀ k, (∀ y0 y1 y2, LeO (trivetref01_Put.l0 k y0 y1 y2) (trivetref01_Put.l0 (k + 1) y0 y1 y2))
  | 0 => fun _ _ _ r h => by simp [trivetref01_Put.l0] at h
  | k + 1 => by
    have ih0 := trivetref01_Put.mono_l k
    · intro y0 y1 y2
      unfold trivetref01_Put.l0
      repeat' first
      | (with_reducible exact ih0 _ _ _)
      | (with_reducible exact trivetref01_Num.mono _ _)
      | (with_reducible exact LeO.refl _)
      | (with_reducible exact LeO.none _)
      | (with_reducible refine LeO.ite ?_ ?_)
      | (with_reducible refine LeO.bind ?_ (fun _ => ?_))
      | exact ih0 _ _ _
      | exact trivetref01_Num.mono _ _
      | exact LeO.none _
      | refine LeO.ite ?_ ?_
      | refine LeO.bind ?_ (fun _ => ?_)
theorem trivetref01_Put.mono : ∀ a0 a1 k, LeO (trivetref01_Put.f k a0 a1) (trivetref01_Put.f (k + 1) a0 a1) := by
  intro a0 a1 k
  have ih0 := trivetref01_Put.mono_l k
  unfold trivetref01_Put.f
  repeat' first
      | (with_reducible exact ih0 _ _ _)
      | (with_reducible exact trivetref01_Num.mono _ _)
      | (with_reducible exact LeO.refl _)
      | (with_reducible exact LeO.none _)
      | (with_reducible refine LeO.ite ?_ ?_)
      | (with_reducible refine LeO.bind ?_ (fun _ => ?_))
      | exact ih0 _ _ _
      | exact trivetref01_Num.mono _ _
      | exact LeO.none _
      | refine LeO.ite ?_ ?_
      | refine LeO.bind ?_ (fun _ => ?_)
set_option maxHeartbeats 8000000 in
set_option maxRecDepth 100000 in
theorem trivetref01_Put.calls (k : Nat) (A0 : Option Addr) (c0 : Nat) (l0 : List Int) (A1 : Option Addr) (c1 : Nat) (l1 : List Int) (r : List Int) (w : World) (hr0 : Kd.C (Kd.int .u8) w A0 l0.length l0) (hc0 : l0.length ≤ c0) (hr1 : Kd.C (Kd.int .i64) w A1 l1.length l1) (hc1 : l1.length ≤ c1) (h : trivetref01_Put.f k l0 l1 = some r) :
    Calls Try.prog 74 #[.slice A0 l0.length c0, .slice A1 l1.length c1] w fun e w' => ∃ v0_ : Value, e = .returned (v0_) ∧ Kd.R (Kd.int .u8) 5 w' w.heap.size (fun _ => True) v0_ r ∧ Below w.heap.size w w' := by
  have HR0 := Aside0.mk hr0
  have HC0 := Aside0.mk hc0
  clear hr0 hc0
  have HR1 := Aside0.mk hr1
  have HC1 := Aside0.mk hc1
  clear hr1 hc1
  have HB := Aside0.mk (Below.refl w.heap.size w)
  have H : (if ([] : List Int).length + l0.length < 140737488355328 then (trivetref01_Put.l0 k l1 (([] : List Int) ++ l0) 0) else (none)) = some r := h
  clear h
  by_cases c3 : ([] : List Int).length + l0.length < 140737488355328
  · rw [if_pos c3] at H
    have LMc3 := Aside0.mk c3
    clear c3
    obtain ⟨y237, hy237⟩ : ∃ y_ : List Int, y_ = (([] : List Int) ++ l0) := ⟨_, rfl⟩
    replace H : (trivetref01_Put.l0 k l1 y237 0) = some r := by first | (rw [hy237]; with_reducible exact H) | (have H2_ := (Option.bind_some _ _).symm.trans H; rw [hy237]; with_reducible exact H2_) | (have H2_ := (Option.bind_some _ _).symm.trans H; with_reducible exact H2_) | with_reducible exact H | (rw [hy237]; exact H) | exact H
    have Ny237 := Aside0.mk hy237
    clear hy237
    have H' := Aside0.mk H
    clear H
    go_enter Try.func74, Try.ntmps74
    go_wp2_with (first | ((with_reducible refine gate_builtin (b := .append) (xs := #[.tmp 7, .tmp 8]) rfl ?_); at_builtin; refine Kd.R_append_rows (Kd.int .u8) (w0 := w) w.heap.size rfl (.tmp 7) (.tmp 8) 26 5 (.int .u8 0) 1 rfl Try.underlying26 info5 rfl (by decide) (by omega) (.slice none 0 0) ([] : List Int) l0 _ _ _ (fun _ => True) (fun _ => False) rfl rfl ?aO ?aR (fun _ _ h => h) (fun _ h => h.elim) ?aF ?aB ?aS ?aL ?_; (case aR => repeat (first | exact HR0.out | (with_reducible refine Kd.C_alloc ?_ _) | (with_reducible refine Kd.C_drewN ?_ _) | (with_reducible refine Kd.C_drew ?_))); (case aB => exact (by repeat (first | (with_reducible first | exact HB.out | apply below_alloc | apply pw_below_drewN | apply below_drew1) | exact HB.out))); (case aF => exact (fun _ _ => trivial)); (case aO => exact ((Kd.R_nil _ _ _ _ (fun _ => True)))); (case aS => exact (below_size (by repeat (first | (with_reducible first | exact HB.out | apply below_alloc | apply pw_below_drewN | apply below_drew1) | exact HB.out)))); (case aL => have := LMc3.out; omega); intro v238 w4 ho hb hg hat; rw [← Ny237.out] at ho; have n0_ := Aside0.mk (hb); have n1_ := Aside0.mk (ho); clear HB; have HB := n0_; have HO239 := n1_; clear n0_ n1_; clear ho hb hg hat))
    go_loopg [5, 6] k (fun kq v5 v6 w' => ∃ (x5_1 : List Int) (x6_1 : Int), v6 = .int .i64 x6_1 ∧ Aside0 (trivetref01_Put.l0 kq l1 x5_1 x6_1 = some r) ∧ Aside0 (kq ≤ k) ∧ Aside0 (Kd.R (Kd.int .u8) 5 w' w.heap.size (fun _ => True) v5 x5_1) ∧ Aside0 (Below w.heap.size w w'))
    case atStart => exact ⟨(y237), (0), (by first | rfl | (simp; done) | (simp [*]; done)), H', ⟨Nat.le_refl _⟩, ⟨by (with_reducible repeat (first | apply Kd.R_alloc | apply Kd.R_drewN | apply Kd.R_drew)); exact HO239.out⟩, ⟨by repeat (first | (with_reducible first | exact HB.out | apply below_alloc | apply pw_below_drewN | apply below_drew1) | exact HB.out)⟩⟩
    case round =>
      clear H'
      try clear c1
      try clear p2
      try clear c3
      obtain ⟨x5_1, x6_1, rfl, HA, HK1, HO_5, HB⟩ := hrel
      cases gk with
      | zero => exact absurd HA.out (by simp [trivetref01_Put.l0])
      | succ k1 =>
        have H := HA.out
        clear HA
        simp only [trivetref01_Put.l0] at H
        by_cases c5 : x6_1 < (l1.length : Int)
        · rw [if_pos c5] at H
          have c5b0 : decide (x6_1 < (l1.length : Int)) = true := decide_eq_true c5
          clear c5
          by_cases c6 : 0 ≤ x6_1
          · rw [if_pos c6] at H
            have c6b0 : decide (0 ≤ x6_1) = true := decide_eq_true c6
            clear c6
            replace H := Option.bind_eq_some_iff.mp H
            obtain ⟨t241, A70, H⟩ := H
            replace H : (if x5_1.length + t241.length < 140737488355328 then (trivetref01_Put.l0 k1 l1 (x5_1 ++ t241) (wrap64 (x6_1 + 1))) else (none)) = some r := H
            have A7 := Aside0.mk A70
            clear A70
            by_cases c8 : x5_1.length + t241.length < 140737488355328
            · rw [if_pos c8] at H
              have LMc8 := Aside0.mk c8
              clear c8
              obtain ⟨y244, hy244⟩ : ∃ y_ : List Int, y_ = (x5_1 ++ t241) := ⟨_, rfl⟩
              replace H : (trivetref01_Put.l0 k1 l1 y244 (wrap64 (x6_1 + 1))) = some r := by first | (rw [hy244]; with_reducible exact H) | (have H2_ := (Option.bind_some _ _).symm.trans H; rw [hy244]; with_reducible exact H2_) | (have H2_ := (Option.bind_some _ _).symm.trans H; with_reducible exact H2_) | with_reducible exact H | (rw [hy244]; exact H) | exact H
              have Ny244 := Aside0.mk hy244
              clear hy244
              have H' := Aside0.mk H
              clear H
              have p240 : 0 ≤ (x6_1 : Int) := of_decide_eq_true (by first | (with_reducible assumption) | assumption)
              have q240 : x6_1 < (l1.length : Int) := of_decide_eq_true (by first | (with_reducible assumption) | assumption)
              obtain ⟨ad240, e240, hx240_0⟩ := Kd.at_int HR1.out x6_1 p240 q240
              cases e240
              replace hx240_0 := (HB.out.cell (World.block_lt_of_cell? w _ hx240_0)).trans hx240_0
              replace p240 := eq_true p240
              replace q240 := eq_true q240
              go_wp2_with (first | ((with_reducible refine gate_callee (f := 99) rfl ?_); refine goesL_ (some 21) rfl rfl Try.func99 (by kernel_rfl) rfl #[.int .i64 (rd l1 x6_1)] rfl (by (try simp only [List.map_toArray, List.map_cons, List.map_nil]); first | done | rfl | (simp only [List.length_drop, List.length_take]; rfl)) ?_; (with_reducible refine (trivetref01_Num.calls k1 (rd l1 x6_1) t241 _ A7.out).mono ?_); rintro e w9 ⟨v242, rfl, ho0, hb⟩; refine ⟨_, rfl, ?_⟩; have n0_ := Aside0.mk (Kd.R_elder' (by (with_reducible repeat (first | apply Kd.R_alloc | apply Kd.R_drewN | apply Kd.R_drew)); exact HO_5.out) (Kd.R_base ho0) hb); have n1_ := Aside0.mk (Kd.R_lower (Kd.R_new' ho0 (Kd.R_lt (by (with_reducible repeat (first | apply Kd.R_alloc | apply Kd.R_drewN | apply Kd.R_drew)); exact HO_5.out))) (below_size (by repeat (first | (with_reducible first | exact HB.out | apply below_alloc | apply pw_below_drewN | apply below_drew1) | exact HB.out)))); have n2_ := Aside0.mk (below_step (by repeat (first | (with_reducible first | exact HB.out | apply below_alloc | apply pw_below_drewN | apply below_drew1) | exact HB.out)) hb); clear HO_5; clear HB; have HO_5 := n0_; have HO243 := n1_; have HB := n2_; clear n0_ n1_ n2_; (try clear hb); (try clear hb2); (try clear hk); (try clear hi); (try clear ho0); obtain ⟨Ao11, co11, eo11⟩ := Kd.R_slice HO243.out; subst eo11) | ((with_reducible refine gate_builtin (b := .append) (xs := #[.tmp 16, .tmp 21]) rfl ?_); at_builtin; refine Kd.R_append_rows (Kd.int .u8) (w0 := w) w.heap.size rfl (.tmp 16) (.tmp 21) 26 5 (.int .u8 0) 1 rfl Try.underlying26 info5 rfl (by decide) (by omega) u5 x5_1 t241 _ _ _ (fun k_ => some k_ ≠ (.slice Ao11 t241.length co11 : Value).ownBlock) (fun _ => False) rfl rfl ?aO ?aR (fun _ _ h => h) (fun _ h => h.elim) ?aF ?aB ?aS ?aL ?_; (case aR => repeat (first | exact (Kd.R_reads' HO243.out).2.2 | (with_reducible refine Kd.C_alloc ?_ _) | (with_reducible refine Kd.C_drewN ?_ _) | (with_reducible refine Kd.C_drew ?_))); (case aB => exact (by repeat (first | (with_reducible first | exact HB.out | apply below_alloc | apply pw_below_drewN | apply below_drew1) | exact HB.out))); (case aF => exact (fun k_ hk => Kd.fresh' (Kd.R_lt (by (with_reducible repeat (first | apply Kd.R_alloc | apply Kd.R_drewN | apply Kd.R_drew)); exact HO243.out)) k_ hk)); (case aO => exact (by (with_reducible repeat (first | apply Kd.R_alloc | apply Kd.R_drewN | apply Kd.R_drew)); exact Kd.R_mono HO_5.out (fun _ hk => hk.2))); (case aS => exact (below_size (by repeat (first | (with_reducible first | exact HB.out | apply below_alloc | apply pw_below_drewN | apply below_drew1) | exact HB.out)))); (case aL => have := LMc8.out; omega); intro v245 w10 ho hb hg hat; rw [← Ny244.out] at ho; have n0_ := Aside0.mk (Kd.R_after (ok := (fun _ => True)) (by (with_reducible repeat (first | apply Kd.R_alloc | apply Kd.R_drewN | apply Kd.R_drew)); exact HO243.out) hg hat); have n1_ := Aside0.mk (hb); have n2_ := Aside0.mk (ho); clear HO243; clear HB; clear HO_5; have HO243 := n0_; have HB := n1_; have HO246 := n2_; clear n0_ n1_ n2_; clear ho hb hg hat))
              go_roundg k1
              case measure => have := HK1.out; omega
              case rel => exact ⟨(y244), (wrap64 (x6_1 + 1)), (by first | rfl | (simp; done) | (simp [*]; done)), H', ⟨by have := HK1.out; omega⟩, ⟨by (with_reducible repeat (first | apply Kd.R_alloc | apply Kd.R_drewN | apply Kd.R_drew)); exact Kd.R_mono HO246.out (fun _ hk => trivial)⟩, ⟨by repeat (first | (with_reducible first | exact HB.out | apply below_alloc | apply pw_below_drewN | apply below_drew1) | exact HB.out)⟩⟩
            · rw [if_neg c8] at H
              exact absurd H (by simp)
          · rw [if_neg c6] at H
            exact absurd H (by simp)
        · rw [if_neg c5] at H
          have c5b0 : decide (x6_1 < (l1.length : Int)) = false := decide_eq_false c5
          clear c5
          obtain rfl := Option.some.inj H
          go_wp2
          go_ret
          exact ⟨_, by first | rfl | (simp [errW_none, errW_some] <;> rfl) | (simp [*, errW_none, errW_some] <;> rfl), by (with_reducible repeat (first | apply Kd.R_alloc | apply Kd.R_drewN | apply Kd.R_drew)); exact HO_5.out, by repeat (first | (with_reducible first | exact HB.out | apply below_alloc | apply pw_below_drewN | apply below_drew1) | exact HB.out)⟩
  · rw [if_neg c3] at H
    exact absurd H (by simp)

/-! ### trivetref01_Blob: function 41 -/
def trivetref01_Blob.f (k : Nat) (l0 : List Int) (l1 : List Int) : Option (List Int) := (trivetref01_Put.f k l0 (([(l1.length : Int)] : List Int))).bind fun t250 => (if t250.length + l1.length < 140737488355328 then (some (t250 ++ l1)) else (none))
theorem trivetref01_Blob.mono : ∀ a0 a1 k, LeO (trivetref01_Blob.f k a0 a1) (trivetref01_Blob.f (k + 1) a0 a1) := by
  intro a0 a1 k
  unfold trivetref01_Blob.f
  repeat' first
      | (with_reducible exact trivetref01_Put.mono _ _ _)
      | (with_reducible exact LeO.refl _)
      | (with_reducible exact LeO.none _)
      | (with_reducible refine LeO.ite ?_ ?_)
      | (with_reducible refine LeO.bind ?_ (fun _ => ?_))
      | exact trivetref01_Put.mono _ _ _
      | exact LeO.none _
      | refine LeO.ite ?_ ?_
      | refine LeO.bind ?_ (fun _ => ?_)
set_option maxHeartbeats 8000000 in
set_option maxRecDepth 100000 in
theorem trivetref01_Blob.calls (k : Nat) (A0 : Option Addr) (c0 : Nat) (l0 : List Int) (A1 : Option Addr) (c1 : Nat) (l1 : List Int) (r : List Int) (w : World) (hr0 : Kd.C (Kd.int .u8) w A0 l0.length l0) (hc0 : l0.length ≤ c0) (hr1 : Kd.C (Kd.int .u8) w A1 l1.length l1) (hc1 : l1.length ≤ c1) (h : trivetref01_Blob.f k l0 l1 = some r) :
    Calls Try.prog 41 #[.slice A0 l0.length c0, .slice A1 l1.length c1] w fun e w' => ∃ v0_ : Value, e = .returned (v0_) ∧ Kd.R (Kd.int .u8) 5 w' w.heap.size (fun _ => True) v0_ r ∧ Below w.heap.size w w' := by
  have HR0 := Aside0.mk hr0
  have HC0 := Aside0.mk hc0
  clear hr0 hc0
  have HR1 := Aside0.mk hr1
  have HC1 := Aside0.mk hc1
  clear hr1 hc1
  have HB := Aside0.mk (Below.refl w.heap.size w)
  have H : ((trivetref01_Put.f k l0 (([(l1.length : Int)] : List Int))).bind fun t250 => (if t250.length + l1.length < 140737488355328 then (some (t250 ++ l1)) else (none))) = some r := h
  clear h
  obtain ⟨y247, hy247⟩ : ∃ y_ : List Int, y_ = (([(l1.length : Int)] : List Int)) := ⟨_, rfl⟩
  replace H : ((trivetref01_Put.f k l0 y247).bind fun t250 => (if t250.length + l1.length < 140737488355328 then (some (t250 ++ l1)) else (none))) = some r := by first | (rw [hy247]; with_reducible exact H) | (have H2_ := (Option.bind_some _ _).symm.trans H; rw [hy247]; with_reducible exact H2_) | (have H2_ := (Option.bind_some _ _).symm.trans H; with_reducible exact H2_) | with_reducible exact H | (rw [hy247]; exact H) | exact H
  have Ny247 := Aside0.mk hy247
  clear hy247
  replace H := Option.bind_eq_some_iff.mp H
  obtain ⟨t250, A30, H⟩ := H
  replace H : (if t250.length + l1.length < 140737488355328 then (some (t250 ++ l1)) else (none)) = some r := H
  have A3 := Aside0.mk A30
  clear A30
  by_cases c4 : t250.length + l1.length < 140737488355328
  · rw [if_pos c4] at H
    have LMc4 := Aside0.mk c4
    clear c4
    obtain ⟨y253, hy253⟩ : ∃ y_ : List Int, y_ = (t250 ++ l1) := ⟨_, rfl⟩
    replace H : (some y253) = some r := by first | (rw [hy253]; with_reducible exact H) | (have H2_ := (Option.bind_some _ _).symm.trans H; rw [hy253]; with_reducible exact H2_) | (have H2_ := (Option.bind_some _ _).symm.trans H; with_reducible exact H2_) | with_reducible exact H | (rw [hy253]; exact H) | exact H
    have Ny253 := Aside0.mk hy253
    clear hy253
    obtain rfl := Option.some.inj H
    go_enter Try.func41, Try.ntmps41
    go_wp2_with (first | ((with_reducible refine gate_dst (N := 8) rfl ?_); refine Kd.R_lit (Kd.int .i64) _ 2 ?hg (N := 8) ?hd (xs := ([(l1.length : Int)] : List Int)) (inner := [.int .i64 (l1.length : Int)]) (ok := fun _ => True) (okp := fun _ => True) ?hr ?hp (fun _ hk => hk) trivial (Below.refl _ _) (Nat.le_refl _) (by simp) ?_; (case hd => rfl); (case hg => rfl); (case hr => first | (go_simp; done) | (go_simp; rfl)); (case hp => exact (Reps.one (show Kd.M (Kd.int .i64) _ _ _ (l1.length : Int) [.int .i64 (l1.length : Int)] from rfl) (Reps.none _ _))); intro v248 w5 ho6 hb hg_ hnew_; clear hg_ hnew_; (first | rw [← Ny247.out] at ho6 | (simp only [Int.reduceToNat] at ho6; rw [← Ny247.out] at ho6)); have n0_ := Aside0.mk (Kd.R_lower ho6 (below_size (by repeat (first | (with_reducible first | exact HB.out | apply below_alloc | apply pw_below_drewN | apply below_drew1) | exact HB.out)))); have n1_ := Aside0.mk (below_step (by repeat (first | (with_reducible first | exact HB.out | apply below_alloc | apply pw_below_drewN | apply below_drew1) | exact HB.out)) hb); clear HB; have HO249 := n0_; have HB := n1_; clear n0_ n1_; clear hb ho6; obtain ⟨Ao7, co7, eo7⟩ := Kd.R_slice HO249.out; subst eo7) | ((with_reducible refine gate_callee (f := 74) rfl ?_); refine goesL_ (some 9) rfl rfl Try.func74 (by kernel_rfl) rfl #[.slice A0 l0.length c0, .slice Ao7 y247.length co7] rfl (by (try simp only [List.map_toArray, List.map_cons, List.map_nil]); first | done | rfl | (simp only [List.length_drop, List.length_take]; rfl)) ?_; (with_reducible refine (trivetref01_Put.calls k _ _ l0 _ _ y247 t250 _ ?side1 ?side2 ?side3 ?side4 A3.out).mono ?_); (case side1 => repeat (first | exact (Kd.C_below HR0.out HB.out) | (with_reducible refine Kd.C_alloc ?_ _) | (with_reducible refine Kd.C_drewN ?_ _) | (with_reducible refine Kd.C_drew ?_))); (case side2 => exact HC0.out); (case side3 => repeat (first | exact (Kd.R_reads' HO249.out).2.2 | (with_reducible refine Kd.C_alloc ?_ _) | (with_reducible refine Kd.C_drewN ?_ _) | (with_reducible refine Kd.C_drew ?_))); (case side4 => exact (Kd.R_reads' HO249.out).2.1); rintro e w8 ⟨v251, rfl, ho0, hb⟩; refine ⟨_, rfl, ?_⟩; have n0_ := Aside0.mk (Kd.R_below (by (with_reducible repeat (first | apply Kd.R_alloc | apply Kd.R_drewN | apply Kd.R_drew)); exact HO249.out) hb); have n1_ := Aside0.mk (Kd.R_lower ho0 (below_size (by repeat (first | (with_reducible first | exact HB.out | apply below_alloc | apply pw_below_drewN | apply below_drew1) | exact HB.out)))); have n2_ := Aside0.mk (below_step (by repeat (first | (with_reducible first | exact HB.out | apply below_alloc | apply pw_below_drewN | apply below_drew1) | exact HB.out)) hb); clear HO249; clear HB; have HO249 := n0_; have HO252 := n1_; have HB := n2_; clear n0_ n1_ n2_; (try clear hb); (try clear hb2); (try clear hk); (try clear hi); (try clear ho0)) | ((with_reducible refine gate_builtin (b := .append) (xs := #[.tmp 9, .tmp 10]) rfl ?_); at_builtin; refine Kd.R_append_rows (Kd.int .u8) (w0 := w) w.heap.size rfl (.tmp 9) (.tmp 10) 26 5 (.int .u8 0) 1 rfl Try.underlying26 info5 rfl (by decide) (by omega) v251 t250 l1 _ _ _ (fun _ => True) (fun _ => False) rfl rfl ?aO ?aR (fun _ _ h => h) (fun _ h => h.elim) ?aF ?aB ?aS ?aL ?_; (case aR => repeat (first | exact (Kd.C_below HR1.out HB.out) | (with_reducible refine Kd.C_alloc ?_ _) | (with_reducible refine Kd.C_drewN ?_ _) | (with_reducible refine Kd.C_drew ?_))); (case aB => exact (by repeat (first | (with_reducible first | exact HB.out | apply below_alloc | apply pw_below_drewN | apply below_drew1) | exact HB.out))); (case aF => exact (fun _ _ => trivial)); (case aO => exact (by (with_reducible repeat (first | apply Kd.R_alloc | apply Kd.R_drewN | apply Kd.R_drew)); exact HO252.out)); (case aS => exact (below_size (by repeat (first | (with_reducible first | exact HB.out | apply below_alloc | apply pw_below_drewN | apply below_drew1) | exact HB.out)))); (case aL => have := LMc4.out; omega); intro v254 w9 ho hb hg hat; rw [← Ny253.out] at ho; have n0_ := Aside0.mk (Kd.R_over' (by (with_reducible repeat (first | apply Kd.R_alloc | apply Kd.R_drewN | apply Kd.R_drew)); exact HO249.out) (Kd.R_typed (by (with_reducible repeat (first | apply Kd.R_alloc | apply Kd.R_drewN | apply Kd.R_drew)); exact HO252.out)) (by decide) hg); have n1_ := Aside0.mk (hb); have n2_ := Aside0.mk (ho); clear HO249; clear HB; clear HO252; have HO249 := n0_; have HB := n1_; have HO255 := n2_; clear n0_ n1_ n2_; clear ho hb hg hat))
    go_ret
    exact ⟨_, by first | rfl | (simp [errW_none, errW_some] <;> rfl) | (simp [*, errW_none, errW_some] <;> rfl), by (with_reducible repeat (first | apply Kd.R_alloc | apply Kd.R_drewN | apply Kd.R_drew)); exact HO255.out, by repeat (first | (with_reducible first | exact HB.out | apply below_alloc | apply pw_below_drewN | apply below_drew1) | exact HB.out)⟩
  · rw [if_neg c4] at H
    exact absurd H (by simp)

/-! ### trivetref04_num: function 42 -/
def trivetref04_num.f (k : Nat) (l0 : List Int) (l1 : List Int) : Option (List Int) := (trivetref01_Put.f k l0 l1).bind fun t256 => (some t256)
theorem trivetref04_num.mono : ∀ a0 a1 k, LeO (trivetref04_num.f k a0 a1) (trivetref04_num.f (k + 1) a0 a1) := by
  intro a0 a1 k
  unfold trivetref04_num.f
  repeat' first
      | (with_reducible exact trivetref01_Put.mono _ _ _)
      | (with_reducible exact LeO.refl _)
      | (with_reducible exact LeO.none _)
      | (with_reducible refine LeO.ite ?_ ?_)
      | (with_reducible refine LeO.bind ?_ (fun _ => ?_))
      | exact trivetref01_Put.mono _ _ _
      | exact LeO.none _
      | refine LeO.ite ?_ ?_
      | refine LeO.bind ?_ (fun _ => ?_)
set_option maxHeartbeats 8000000 in
set_option maxRecDepth 100000 in
theorem trivetref04_num.calls (k : Nat) (A0 : Option Addr) (c0 : Nat) (l0 : List Int) (A1 : Option Addr) (c1 : Nat) (l1 : List Int) (r : List Int) (w : World) (hr0 : Kd.C (Kd.int .u8) w A0 l0.length l0) (hc0 : l0.length ≤ c0) (hr1 : Kd.C (Kd.int .i64) w A1 l1.length l1) (hc1 : l1.length ≤ c1) (h : trivetref04_num.f k l0 l1 = some r) :
    Calls Try.prog 42 #[.slice A0 l0.length c0, .slice A1 l1.length c1] w fun e w' => ∃ v0_ : Value, e = .returned (v0_) ∧ Kd.R (Kd.int .u8) 5 w' w.heap.size (fun _ => True) v0_ r ∧ Below w.heap.size w w' := by
  have HR0 := Aside0.mk hr0
  have HC0 := Aside0.mk hc0
  clear hr0 hc0
  have HR1 := Aside0.mk hr1
  have HC1 := Aside0.mk hc1
  clear hr1 hc1
  have HB := Aside0.mk (Below.refl w.heap.size w)
  have H : ((trivetref01_Put.f k l0 l1).bind fun t256 => (some t256)) = some r := h
  clear h
  replace H := Option.bind_eq_some_iff.mp H
  obtain ⟨t256, A30, H⟩ := H
  replace H : (some t256) = some r := H
  have A3 := Aside0.mk A30
  clear A30
  obtain rfl := Option.some.inj H
  go_enter Try.func42, Try.ntmps42
  go_wp2_with (first | ((with_reducible refine gate_callee (f := 74) rfl ?_); refine goesL_ (some 7) rfl rfl Try.func74 (by kernel_rfl) rfl #[.slice A0 l0.length c0, .slice A1 l1.length c1] rfl (by (try simp only [List.map_toArray, List.map_cons, List.map_nil]); first | done | rfl | (simp only [List.length_drop, List.length_take]; rfl)) ?_; (with_reducible refine (trivetref01_Put.calls k _ _ l0 _ _ l1 t256 _ ?side1 ?side2 ?side3 ?side4 A3.out).mono ?_); (case side1 => repeat (first | exact HR0.out | (with_reducible refine Kd.C_alloc ?_ _) | (with_reducible refine Kd.C_drewN ?_ _) | (with_reducible refine Kd.C_drew ?_))); (case side2 => exact HC0.out); (case side3 => repeat (first | exact HR1.out | (with_reducible refine Kd.C_alloc ?_ _) | (with_reducible refine Kd.C_drewN ?_ _) | (with_reducible refine Kd.C_drew ?_))); (case side4 => exact HC1.out); rintro e w4 ⟨v257, rfl, ho0, hb⟩; refine ⟨_, rfl, ?_⟩; have n0_ := Aside0.mk (Kd.R_lower ho0 (below_size (by repeat (first | (with_reducible first | exact HB.out | apply below_alloc | apply pw_below_drewN | apply below_drew1) | exact HB.out)))); have n1_ := Aside0.mk (below_step (by repeat (first | (with_reducible first | exact HB.out | apply below_alloc | apply pw_below_drewN | apply below_drew1) | exact HB.out)) hb); clear HB; have HO258 := n0_; have HB := n1_; clear n0_ n1_; (try clear hb); (try clear hb2); (try clear hk); (try clear hi); (try clear ho0)))
  go_ret
  exact ⟨_, by first | rfl | (simp [errW_none, errW_some] <;> rfl) | (simp [*, errW_none, errW_some] <;> rfl), by (with_reducible repeat (first | apply Kd.R_alloc | apply Kd.R_drewN | apply Kd.R_drew)); exact HO258.out, by repeat (first | (with_reducible first | exact HB.out | apply below_alloc | apply pw_below_drewN | apply below_drew1) | exact HB.out)⟩

end Go.Proofs.Ytgiefblcckikeaa.G
end

section
/- What trivet/trivetref01's Num and Put come to, in plain Lean. -/
set_option maxRecDepth 100000
set_option linter.unusedVariables false
set_option linter.unusedSimpArgs false
namespace Go.Proofs.Ytgiefblcckikeaa.M
open Go.RowKit Go.Proofs.YtgiefblcckikeaaW.PrintWords Go.Proofs.Ytgiefblcckikeaa.G

theorem ref_num_l0 (j : Nat) : ∀ (k m : Nat) (acc : List Int) (z : Int), m < 256 ^ j → j < k → acc.length + j ≤ 8 → (z = 0 ∨ z = 1) →
    trivetref01_Num.l0 k (m : Int) z acc = some ((2 * ((acc ++ lowB m).length : Int) + z) :: (acc ++ lowB m)) := by
  induction j with
  | zero =>
    intro k m acc z hm hk ha hz
    obtain ⟨k, rfl⟩ : ∃ q, k = q + 1 := ⟨k - 1, by omega⟩
    obtain rfl : m = 0 := by simpa using hm
    simp only [trivetref01_Num.l0]
    rw [if_neg (by simp), lowB_zero, List.append_nil, Option.bind_some, if_pos (by simp; omega)]
    congr 1
    simp only [List.singleton_append]
    congr 1
    unfold wrap64
    omega
  | succ j ih =>
    intro k m acc z hm hk ha hz
    obtain ⟨k, rfl⟩ : ∃ q, k = q + 1 := ⟨k - 1, by omega⟩
    by_cases h0 : m = 0
    · subst h0
      simp only [trivetref01_Num.l0]
      rw [if_neg (by simp), lowB_zero, List.append_nil, Option.bind_some, if_pos (by simp; omega)]
      congr 1
      simp only [List.singleton_append]
      congr 1
      unfold wrap64
      omega
    · have hj : m < 256 ^ 8 := Nat.lt_of_lt_of_le hm (Nat.pow_le_pow_right (by omega) (by omega))
      simp only [trivetref01_Num.l0]
      rw [if_pos (by omega), if_pos (by omega)]
      have e1 : IntKind.u64.wrap (Int.tdiv (m : Int) 256) = ((m / 256 : Nat) : Int) := by
        rw [Int.tdiv_eq_ediv_of_nonneg (by omega), IntKind.wrap_u64]; omega
      have e2 : Int.tmod (m : Int) 256 % 256 = ((m % 256 : Nat) : Int) := by
        rw [Int.tmod_eq_emod_of_nonneg (by omega)]; omega
      rw [e1, e2, ih k (m / 256) _ z (by rw [Nat.pow_succ] at hm; omega) (by omega) (by simp; omega) hz, lowB_pos h0]
      simp only [List.append_assoc, List.singleton_append]
theorem ref_num {n : Int} (h : isI64 n) (k : Nat) (hk : 10 ≤ k) : trivetref01_Num.f k n = some (numB n) := by
  have hm := mag_lt h
  obtain ⟨k, rfl⟩ : ∃ q, k = q + 1 := ⟨k - 1, by omega⟩
  unfold isI64 at h
  unfold trivetref01_Num.f
  by_cases h0 : n < 0
  · rw [if_pos h0]
    have e : IntKind.u64.wrap (IntKind.u64.wrap (wrap64 (-wrap64 (n + 1))) + 1) = (mag n : Int) := by
      simp only [IntKind.wrap_u64]; unfold wrap64 mag; omega
    rw [e]
    simp only [trivetref01_Num.j0]
    rw [ref_num_l0 8 k _ _ _ hm (by omega) (by simp) (.inr rfl)]
    unfold numB
    rw [if_pos h0]
    simp
  · rw [if_neg h0]
    have e : IntKind.u64.wrap n = (mag n : Int) := by
      simp only [IntKind.wrap_u64]; unfold mag; omega
    rw [e]
    simp only [trivetref01_Num.j0]
    rw [ref_num_l0 8 k _ _ _ hm (by omega) (by simp) (.inl rfl)]
    unfold numB
    rw [if_neg h0]
    simp
theorem ref_put_l0 (l : List Int) (hi : okI l = true) (d : Nat) : ∀ (k j : Nat) (acc : List Int), l.length - j = d → j ≤ l.length → acc.length + 9 * d < 140737488355328 → l.length < 140737488355328 → d + 10 ≤ k →
    trivetref01_Put.l0 k l acc (j : Int) = some (acc ++ numsB (l.drop j)) := by
  induction d with
  | zero =>
    intro k j acc hd hj ha hl hk
    obtain ⟨k, rfl⟩ : ∃ q, k = q + 1 := ⟨k - 1, by omega⟩
    simp only [trivetref01_Put.l0]
    rw [if_neg (by omega), List.drop_eq_nil_of_le (by omega)]
    simp [numsB]
  | succ d ih =>
    intro k j acc hd hj ha hl hk
    obtain ⟨k, rfl⟩ : ∃ q, k = q + 1 := ⟨k - 1, by omega⟩
    have hlt : j < l.length := by omega
    have hr : rd l (j : Int) = l[j] := by simp [rd, List.getD_eq_getElem?_getD, List.getElem?_eq_getElem hlt]
    have hx := okI_mem hi (List.getElem_mem hlt)
    have hn := numB_len hx
    simp only [trivetref01_Put.l0]
    rw [if_pos (by omega), if_pos (by omega), hr, ref_num hx k (by omega), Option.bind_some, if_pos (by omega)]
    have hw : wrap64 ((j : Int) + 1) = ((j + 1 : Nat) : Int) := by unfold wrap64; omega
    rw [hw, ih k (j + 1) _ (by omega) (by omega) (by simp only [List.length_append]; omega) hl (by omega), List.drop_eq_getElem_cons hlt]
    simp only [numsB, List.flatMap_cons, List.append_assoc]
theorem ref_put (l0 l1 : List Int) (hi : okI l1 = true) (hs : l0.length + 9 * l1.length < 140737488355328) (k : Nat) (hk : l1.length + 10 ≤ k) : trivetref01_Put.f k l0 l1 = some (l0 ++ numsB l1) := by
  unfold trivetref01_Put.f
  rw [if_pos (by simp; omega)]
  have := ref_put_l0 l1 hi l1.length k 0 ([] ++ l0) (by omega) (by omega) (by simpa using hs) (by omega) hk
  rw [show ((0 : Nat) : Int) = 0 from rfl] at this
  rw [this]
  simp
end Go.Proofs.Ytgiefblcckikeaa.M
end

section
/- record.PutTxn. -/
set_option maxRecDepth 100000
set_option linter.unusedVariables false
set_option linter.unusedSimpArgs false
namespace Go.Proofs.Ytgiefblcckikeaa.M
open Go.RowKit Go.Proofs.YtgiefblcckikeaaW.PrintWords Go.Proofs.YtgiefblcckikeaaW.PrintLast Go.Proofs.YtgiefblcckikeaaW.PrintMore Go.Proofs.Ytgiefblcckikeaa.G

def putF (hd : List Int) (t : TxD) : List Int × Int := if mayT t = true then (if 1048576 < (hd ++ txB t).length then ([], 3) else (hd ++ txB t, 0)) else ([], 40)
set_option maxHeartbeats 1000000 in
theorem putTxn_is (B : Option Addr) (cb : Nat) (hd : List Int) (x : TxD) {A2 A3 A4 A5 : Option Addr} {c2 c3 c4 c5 : Nat} (w : World) (hr : Kd.C (Kd.int .u8) w B hd.length hd) (hcb : hd.length ≤ cb) (hX : TxC w x A2 c2 A3 c3 A4 c4 A5 c5) (ho : okT x = true) (hs : hd.length + 2000 < 140737488355328) :
    Calls Try.prog 12 #[.slice B hd.length cb, .agg #[.int .i64 x.f0, .int .i64 x.f1, .slice A2 x.f2.length c2, .slice A3 x.f3.length c3, .slice A4 x.f4.length c4, .slice A5 x.f5.length c5]] w fun e w' => BytesP w (putF hd x).1 (putF hd x).2 e w' := by
  have HO := Lib.hid ho; have HS := Lib.hid hs; have HCB := Lib.hid hcb
  have HB1 := Lib.hid (show Below w.heap.size w (w.alloc (.cells #[.int .i64 x.f0, .int .i64 x.f1, .slice A2 x.f2.length c2, .slice A3 x.f3.length c3, .slice A4 x.f4.length c4, .slice A5 x.f5.length c5] 36)) from (Below.refl _ _).alloc (Nat.le_refl _) _)
  have HX1 := Lib.hid (show TxBox (w.alloc (.cells #[.int .i64 x.f0, .int .i64 x.f1, .slice A2 x.f2.length c2, .slice A3 x.f3.length c3, .slice A4 x.f4.length c4, .slice A5 x.f5.length c5] 36)) w.heap.size x A2 c2 A3 c3 A4 c4 A5 c5 from heap_alloc_new w _)
  have HC1 := Lib.hid (hX.below HB1.out)
  have HC := Lib.hid hX
  have HR := Lib.hid hr
  clear hr ho hX hs hcb
  go_enter Try.func12, Try.ntmps12
  go_wp2_with fail
  refine (mayTx_is x HC1.out).mono ?_
  rintro e w2 ⟨rfl, hb⟩
  have HB2 := Lib.hid (below_then HB1.out hb)
  have HX2 := Lib.hid (show TxBox w2 w.heap.size x A2 c2 A3 c3 A4 c4 A5 c5 from (hb.block _ HX1.out.cell.2.2.2.2.2.2).trans HX1.out)
  clear hb
  cases hm : mayT x with
  | false =>
    have HF := Lib.hid (show putF hd x = ([], 40) by unfold putF; rw [if_neg (by rw [hm]; simp)])
    clear hm
    go_wp2_with fail
    go_ret2
    refine ⟨.slice none 0 0, by rw [HF.out]; rfl, by rw [HF.out]; exact Kd.R_nil _ _ _ _ _, HB2.out⟩
  | true =>
    have HM := Lib.hid hm
    have HF := Lib.hid (show putF hd x = (if 1048576 < (hd ++ txB x).length then [] else hd ++ txB x, if 1048576 < (hd ++ txB x).length then 3 else 0) by
      unfold putF
      rw [if_pos hm]
      split <;> rfl)
    clear hm
    go_wp2_with fail
    refine (newPen_is B cb hd w2 (Kd.C_below HR.out HB2.out) HCB.out (by have := HS.out; omega)).mono ?_
    rintro e w3 ⟨p, rfl, hI, hb⟩
    have HB3 := Lib.hid (below_then HB2.out hb)
    have HX3 := Lib.hid (show TxBox w3 w.heap.size x A2 c2 A3 c3 A4 c4 A5 c5 from (hb.block _ HX2.out.cell.2.2.2.2.2.2).trans HX2.out)
    have HI3 := Lib.hid (show IsPen w3 w.heap.size p hd by
      obtain ⟨A', c', h1, h2, h3, h4⟩ := hI
      have hz := HB2.out.size
      exact ⟨A', c', h1, by omega, h3, Kd.R_lower h4 hz⟩)
    obtain ⟨d0, d1, d2, d3, d4, d5, dz⟩ := HX3.out.cell
    clear hI hb
    go_wp2_with fail
    refine (penTxn_is HI3.out HB3.out HI3.out.ge x HC.out HO.out HM.out HS.out).mono ?_
    rintro e w4 ⟨rfl, h1, h2, h3⟩
    have HB4 := Lib.hid h2
    obtain ⟨A', c', hh, _, hc', hR⟩ := h1
    have HRR := Lib.hid hR
    obtain ⟨bs, hbs⟩ : ∃ bs, hd ++ txB x = bs := ⟨_, rfl⟩
    rw [hbs] at hh HRR HF
    have p0 : w4.cell? ⟨p, 0, none⟩ = some (.slice A' bs.length c') := by simp [World.cell?, hh]
    clear h2 h3 hh hc' hR hbs d0 d1 d2 d3 d4 d5 dz
    go_wp2_with fail
    refine (fits_is HB4.out HRR.out).mono ?_
    rintro e w5 ⟨v, rfl, hv, hb⟩
    have HV := Lib.hid hv; have HB5 := Lib.hid hb
    clear hv hb
    obtain ⟨q, hq⟩ : ∃ q : Int, (if 1048576 < bs.length then 3 else 0) = q := ⟨_, rfl⟩
    rw [hq] at HF ⊢
    clear hq
    go_wp2_with fail
    go_ret2
    exact ⟨v, by rw [HF.out]; rfl, by rw [HF.out]; exact HV.out, HB5.out⟩
end Go.Proofs.Ytgiefblcckikeaa.M
namespace Go.Proofs.Ytgiefblcckikeaa.G
open Go.RowKit Go.Proofs.YtgiefblcckikeaaW.PrintWords Go.Proofs.Ytgiefblcckikeaa.M
def record_PutTxn.f (l0 : List Int) (a1_0 a1_1 : Int) (l1_2 l1_3 : List Int) (l1_4 l1_5 : List S93) : Option (List Int × Int) := if okT ⟨a1_0, a1_1, l1_2, l1_3, l1_4, l1_5⟩ = true ∧ l0.length + 2000 < 140737488355328 then some (putF l0 ⟨a1_0, a1_1, l1_2, l1_3, l1_4, l1_5⟩) else none
theorem record_PutTxn.calls (A0 : Option Addr) (c0 : Nat) (l0 : List Int) (a1_0 a1_1 : Int) (A1_2 : Option Addr) (c1_2 : Nat) (l1_2 : List Int) (A1_3 : Option Addr) (c1_3 : Nat) (l1_3 : List Int) (A1_4 : Option Addr) (c1_4 : Nat) (l1_4 : List S93) (A1_5 : Option Addr) (c1_5 : Nat) (l1_5 : List S93) (r1 : List Int) (r2 : Int) (w : World) (hr0 : Kd.C (Kd.int .u8) w A0 l0.length l0) (hc0 : l0.length ≤ c0) (hr1_2 : Kd.C (Kd.int .u8) w A1_2 l1_2.length l1_2) (hc1_2 : l1_2.length ≤ c1_2) (hr1_3 : Kd.C (Kd.int .i64) w A1_3 l1_3.length l1_3) (hc1_3 : l1_3.length ≤ c1_3) (hr1_4 : Kd.C k93 w A1_4 l1_4.length l1_4) (hc1_4 : l1_4.length ≤ c1_4) (hr1_5 : Kd.C k93 w A1_5 l1_5.length l1_5) (hc1_5 : l1_5.length ≤ c1_5) (h : record_PutTxn.f l0 a1_0 a1_1 l1_2 l1_3 l1_4 l1_5 = some (r1, r2)) :
    Calls Try.prog 12 #[.slice A0 l0.length c0, .agg #[.int .i64 a1_0, .int .i64 a1_1, .slice A1_2 l1_2.length c1_2, .slice A1_3 l1_3.length c1_3, .slice A1_4 l1_4.length c1_4, .slice A1_5 l1_5.length c1_5]] w fun e w' => ∃ v0_ : Value, e = .returned (.tuple #[v0_, .int .i64 r2]) ∧ Kd.R (Kd.int .u8) 5 w' w.heap.size (fun _ => True) v0_ r1 ∧ Below w.heap.size w w' := by
  unfold record_PutTxn.f at h
  split at h
  · rename_i ho
    have h := Option.some.inj h
    have := putTxn_is A0 c0 l0 ⟨a1_0, a1_1, l1_2, l1_3, l1_4, l1_5⟩ w hr0 hc0 ⟨hc1_2, hr1_2, hc1_3, hr1_3, hc1_4, hr1_4, hc1_5, hr1_5⟩ ho.1 ho.2
    rw [h] at this
    exact this
  · cases h
end Go.Proofs.Ytgiefblcckikeaa.G
end

section
/- bytes.HasSuffix. -/
set_option maxRecDepth 100000
set_option linter.unusedVariables false
set_option linter.unusedSimpArgs false
attribute [local irreducible] Go.wpStill
namespace Go.Proofs.Ytgiefblcckikeaa.M
open Go.RowKit Go.Proofs.YtgiefblcckikeaaW.PrintWords Go.Proofs.YtgiefblcckikeaaW.PrintLast Go.Proofs.YtgiefblcckikeaaW.PrintMore Go.Proofs.Ytgiefblcckikeaa.G
def sufB (a b : List Int) : Bool := if b.length ≤ a.length then eqS (a.drop (a.length - b.length)) b else false
theorem suffix_is (A : Option Addr) (c : Nat) (a : List Int) (B : Option Addr) (d : Nat) (b : List Int) (w : World) (ha : Kd.C (Kd.int .u8) w A a.length a) (hc : a.length ≤ c) (hb : Kd.C (Kd.int .u8) w B b.length b) (hd : b.length ≤ d) :
    Calls Try.prog 15 #[.slice A a.length c, .slice B b.length d] w fun e w' => e = .returned (.bool (sufB a b)) ∧ Below w.heap.size w w' := by
  by_cases h : b.length ≤ a.length
  · have hq : decide ((b.length : Int) ≤ (a.length : Int)) = true := decide_eq_true (by omega)
    have hq2 : decide (b.length ≤ a.length) = true := decide_eq_true h
    have hm : a.length ≤ 9223372036854775807 := ha.2.1
    obtain ⟨j, hj⟩ : ∃ j : Nat, a.length - b.length = j := ⟨_, rfl⟩
    have hw : wrap64 ((a.length : Int) - (b.length : Int)) = (j : Int) := by unfold wrap64; omega
    obtain ⟨A', hcut, hC, hc'⟩ := cutE (A := A) (c := c) (l := a) j (by omega) hc
    have HF := Lib.hid (show sufB a b = eqS (a.drop j) b by unfold sufB; rw [if_pos h, hj])
    obtain ⟨r, hr⟩ : ∃ r, eqS (a.drop j) b = r := ⟨_, rfl⟩
    have HE := Lib.hid (G.bytes_Equal.calls A' (c - j) (a.drop j) B d b r w (hC w ha) hc' hb hd (by unfold G.bytes_Equal.f; rw [← hr]; rfl))
    rw [hr] at HF
    obtain ⟨l2, hl2⟩ : ∃ l2, a.drop j = l2 := ⟨_, rfl⟩
    rw [hl2] at hcut HE
    clear h hm hj hC hc' hr hl2 ha hb
    go_enter Try.func15, Try.ntmps15
    go_wp2_with fail
    refine HE.out.mono ?_
    rintro e w1 ⟨rfl, ⟨n, rfl⟩⟩
    go_wp2_with fail
    go_ret
    exact ⟨by rw [HF.out]; rfl, pw_below_drewN (Below.refl _ _) n⟩
  · have hq : decide ((b.length : Int) ≤ (a.length : Int)) = false := decide_eq_false (by omega)
    have hq2 : decide (b.length ≤ a.length) = false := decide_eq_false h
    have HF := Lib.hid (show sufB a b = false by unfold sufB; rw [if_neg h])
    clear h ha hb
    go_enter Try.func15, Try.ntmps15
    go_wp2_with fail
    go_ret
    exact ⟨by rw [HF.out]; rfl, Below.refl _ _⟩
end Go.Proofs.Ytgiefblcckikeaa.M
namespace Go.Proofs.Ytgiefblcckikeaa.G
open Go.RowKit Go.Proofs.YtgiefblcckikeaaW.PrintWords Go.Proofs.Ytgiefblcckikeaa.M
def bytes_HasSuffix.f (l0 l1 : List Int) : Option Bool := some (sufB l0 l1)
theorem bytes_HasSuffix.calls (A0 : Option Addr) (c0 : Nat) (l0 : List Int) (A1 : Option Addr) (c1 : Nat) (l1 : List Int) (r : Bool) (w : World) (hr0 : Kd.C (Kd.int .u8) w A0 l0.length l0) (hc0 : l0.length ≤ c0) (hr1 : Kd.C (Kd.int .u8) w A1 l1.length l1) (hc1 : l1.length ≤ c1) (h : bytes_HasSuffix.f l0 l1 = some r) :
    Calls Try.prog 15 #[.slice A0 l0.length c0, .slice A1 l1.length c1] w fun e w' => e = .returned (.bool r) ∧ Below w.heap.size w w' := by
  obtain rfl := Option.some.inj h
  exact suffix_is A0 c0 l0 A1 c1 l1 w hr0 hc0 hr1 hc1
end Go.Proofs.Ytgiefblcckikeaa.G
end
