/- RecordBackSaid: contracts of the functions that the law goes through, put together in build order (part 4 of 7). -/
import Derived.Test.YtgiefblcckikeaaGreatPart2
import Derived.Lib.Bytes
import Derived.Deep.RegionHeld3
import Derived.Laws.Rows
import Derived.WalkKit
import Derived.BigRegion
import Derived.Laws.Tables
set_option linter.unusedVariables false
set_option linter.unusedSimpArgs false
set_option maxRecDepth 100000
section
-- Written by a program of this session's (wip/gprint.py over the kit's printer).
namespace Go.Proofs.YtgiefblcckikeaaGreat.G
open Go.RowKit Go.Proofs.YtgiefblcckikeaaGreatW.PrintWords Go.Proofs.YtgiefblcckikeaaGreatW.PrintLast Go.Proofs.YtgiefblcckikeaaGreatW.PrintMore
attribute [local go_sem] max2_int min2_int max_two min_two max_three min_three max_four min_four   -- for this text's walks alone
def trivetref04_MayTxn.f (k : Nat) (a0_0 : Int) (a0_1 : Int) (l0_2 : List Int) (l0_3 : List Int) (l0_4 : List (S101)) (l0_5 : List (S101)) : Option (Bool) := (trivetref04_count.f a0_0).bind fun t193 => (if t193 = true then (if a0_0 > 0 then ((trivetref04_count.f a0_1).bind fun t194 => (if t194 = true then (if a0_1 > 0 then (if (l0_2.length : Int) ≤ 512 then (if (l0_3.length : Int) ≤ 8 then ((trivetref04_MayKeys.f k l0_4).bind fun t195 => (if t195 = true then ((trivetref04_MayKeys.f k l0_5).bind fun t196 => (some t196)) else (some false))) else (some false)) else (some false)) else (some false)) else (some false))) else (some false)) else (some false))
set_option maxHeartbeats 4000000 in
theorem trivetref04_MayTxn.calls (k : Nat) (a0_0 : Int) (a0_1 : Int) (A0_2 : Option Addr) (c0_2 : Nat) (l0_2 : List Int) (A0_3 : Option Addr) (c0_3 : Nat) (l0_3 : List Int) (A0_4 : Option Addr) (c0_4 : Nat) (l0_4 : List (S101)) (A0_5 : Option Addr) (c0_5 : Nat) (l0_5 : List (S101)) (r : Bool) (w : World) (hr0_2 : Kd.C (Kd.int .u8) w A0_2 l0_2.length l0_2) (hc0_2 : l0_2.length ≤ c0_2) (hr0_3 : Kd.C (Kd.int .i64) w A0_3 l0_3.length l0_3) (hc0_3 : l0_3.length ≤ c0_3) (hr0_4 : Kd.C k101 w A0_4 l0_4.length l0_4) (hc0_4 : l0_4.length ≤ c0_4) (hr0_5 : Kd.C k101 w A0_5 l0_5.length l0_5) (hc0_5 : l0_5.length ≤ c0_5) (h : trivetref04_MayTxn.f k a0_0 a0_1 l0_2 l0_3 l0_4 l0_5 = some r) :
  Calls Tryz.prog 43 #[.agg #[.int .i64 a0_0, .int .i64 a0_1, .slice A0_2 l0_2.length c0_2, .slice A0_3 l0_3.length c0_3, .slice A0_4 l0_4.length c0_4, .slice A0_5 l0_5.length c0_5]] w fun e w' => e = .returned (.bool r) ∧ Below w.heap.size w w' := by
 have R := Aside0.mk (And.intro hr0_2 (And.intro hr0_3 (And.intro hr0_4 hr0_5)))
 have C := Aside0.mk (And.intro hc0_2 (And.intro hc0_3 (And.intro hc0_4 hc0_5)))
 clear hr0_2 hc0_2 hr0_3 hc0_3 hr0_4 hc0_4 hr0_5 hc0_5
 obtain ⟨x, hb⟩ := box1 w #[.int .i64 a0_0, .int .i64 a0_1, .slice A0_2 l0_2.length c0_2, .slice A0_3 l0_3.length c0_3, .slice A0_4 l0_4.length c0_4, .slice A0_5 l0_5.length c0_5] 26
 unfold trivetref04_MayTxn.f at h
 have H := Aside0.mk h
 clear h
 go_enter Tryz.func43, Tryz.ntmps43
 go_upto_region 1 with fail
 obtain ⟨W, hW⟩ : ∃ W, w.alloc (.cells #[.int .i64 a0_0, .int .i64 a0_1, .slice A0_2 l0_2.length c0_2, .slice A0_3 l0_3.length c0_3, .slice A0_4 l0_4.length c0_4, .slice A0_5 l0_5.length c0_5] 26) = W := ⟨_, rfl⟩
 rw [hW] at x hb ⊢
 have X := Aside0.mk x; have B := Aside0.mk hb
 clear x hb hW
 have x0 : W.cell? ⟨w.heap.size, 0, none⟩ = some (.int .i64 a0_0) := (blk_cell X.out 0).trans rfl
 obtain ⟨b, e, h⟩ := Option.bind_eq_some_iff.1 H.out
 have E := Aside0.mk e; have H1 := Aside0.mk h; clear e h H
 go_wp2_with fail
 refine (trivetref04_count.calls a0_0 b W E.out).mono ?_
 rintro e W0 ⟨rfl, d⟩
 have B0 := Aside0.mk (below_step B.out d.below); have X0 := Aside0.mk (blk_below X.out d.below)
 clear d B E X x0
 have B := B0; have X := X0; clear B0 X0
 cases b with
 | false =>
  have h := H1.out; rw [if_neg (by decide)] at h; obtain rfl := Option.some.inj h; clear h
  go_wp2_with fail
  go_ret
  exact ⟨rfl, B.out⟩
 | true =>
  have h := H1.out; rw [if_pos rfl] at h; have H := Aside0.mk h; clear h H1
  have x0 : W0.cell? ⟨w.heap.size, 0, none⟩ = some (.int .i64 a0_0) := (blk_cell X.out 0).trans rfl
  by_cases q : a0_0 > 0
  rotate_left
  ·have h := H.out; rw [if_neg q] at h; obtain rfl := Option.some.inj h
   have n0 : decide (0 < a0_0) = false := decide_eq_false q; clear h q
   go_wp2_with fail
   go_ret
   exact ⟨rfl, B.out⟩
  have h := H.out; rw [if_pos q] at h; clear H; have H := Aside0.mk h; have p10 : decide (0 < a0_0) = true := decide_eq_true q; clear h q
  have x1 : W0.cell? ⟨w.heap.size, 1, none⟩ = some (.int .i64 a0_1) := (blk_cell X.out 1).trans rfl
  obtain ⟨b, e, h⟩ := Option.bind_eq_some_iff.1 H.out
  have E := Aside0.mk e; have H1 := Aside0.mk h; clear e h H
  go_wp2_with fail
  refine (trivetref04_count.calls a0_1 b W0 E.out).mono ?_
  rintro e W2 ⟨rfl, d⟩
  have B2 := Aside0.mk (below_step B.out d.below); have X2 := Aside0.mk (blk_below X.out d.below)
  clear d B E X x1
  have B := B2; have X := X2; clear B2 X2
  cases b with
  | false =>
   have h := H1.out; rw [if_neg (by decide)] at h; obtain rfl := Option.some.inj h; clear h
   go_wp2_with fail
   go_ret
   exact ⟨rfl, B.out⟩
  | true =>
   have h := H1.out; rw [if_pos rfl] at h; have H := Aside0.mk h; clear h H1
   have x1 : W2.cell? ⟨w.heap.size, 1, none⟩ = some (.int .i64 a0_1) := (blk_cell X.out 1).trans rfl
   by_cases q : a0_1 > 0
   rotate_left
   ·have h := H.out; rw [if_neg q] at h; obtain rfl := Option.some.inj h
    have n0 : decide (0 < a0_1) = false := decide_eq_false q; clear h q
    go_wp2_with fail
    go_ret
    exact ⟨rfl, B.out⟩
   have h := H.out; rw [if_pos q] at h; clear H; have H := Aside0.mk h; have p30 : decide (0 < a0_1) = true := decide_eq_true q; clear h q
   have x2 : W2.cell? ⟨w.heap.size, 2, none⟩ = some (.slice A0_2 l0_2.length c0_2) := (blk_cell X.out 2).trans rfl
   by_cases q : (l0_2.length : Int) ≤ 512
   rotate_left
   ·have h := H.out; rw [if_neg q] at h; obtain rfl := Option.some.inj h
    have n0 : decide ((l0_2.length : Int) ≤ 512) = false := decide_eq_false q; have n1 : decide (l0_2.length ≤ 512) = false := decide_eq_false (by omega); clear h q
    go_wp2_with fail
    go_ret
    exact ⟨rfl, B.out⟩
   have h := H.out; rw [if_pos q] at h; clear H; have H := Aside0.mk h; have p40 : decide ((l0_2.length : Int) ≤ 512) = true := decide_eq_true q; have p41 : decide (l0_2.length ≤ 512) = true := decide_eq_true (by omega); clear h q
   have x3 : W2.cell? ⟨w.heap.size, 3, none⟩ = some (.slice A0_3 l0_3.length c0_3) := (blk_cell X.out 3).trans rfl
   by_cases q : (l0_3.length : Int) ≤ 8
   rotate_left
   ·have h := H.out; rw [if_neg q] at h; obtain rfl := Option.some.inj h
    have n0 : decide ((l0_3.length : Int) ≤ 8) = false := decide_eq_false q; have n1 : decide (l0_3.length ≤ 8) = false := decide_eq_false (by omega); clear h q
    go_wp2_with fail
    go_ret
    exact ⟨rfl, B.out⟩
   have h := H.out; rw [if_pos q] at h; clear H; have H := Aside0.mk h; have p50 : decide ((l0_3.length : Int) ≤ 8) = true := decide_eq_true q; have p51 : decide (l0_3.length ≤ 8) = true := decide_eq_true (by omega); clear h q
   have x4 : W2.cell? ⟨w.heap.size, 4, none⟩ = some (.slice A0_4 l0_4.length c0_4) := (blk_cell X.out 4).trans rfl
   obtain ⟨b, e, h⟩ := Option.bind_eq_some_iff.1 H.out
   have E := Aside0.mk e; have H1 := Aside0.mk h; clear e h H
   go_wp2_with fail
   refine (trivetref04_MayKeys.calls k A0_4 c0_4 l0_4 b W2 (Kd.C_below R.out.2.2.1 B.out) C.out.2.2.1 E.out).mono ?_
   rintro e W6 ⟨rfl, d⟩
   have B6 := Aside0.mk (below_step B.out d); have X6 := Aside0.mk (blk_below X.out d)
   clear d B E X x4
   have B := B6; have X := X6; clear B6 X6
   cases b with
   | false =>
    have h := H1.out; rw [if_neg (by decide)] at h; obtain rfl := Option.some.inj h; clear h
    go_wp2_with fail
    go_ret
    exact ⟨rfl, B.out⟩
   | true =>
    have h := H1.out; rw [if_pos rfl] at h; have H := Aside0.mk h; clear h H1
    have x5 : W6.cell? ⟨w.heap.size, 5, none⟩ = some (.slice A0_5 l0_5.length c0_5) := (blk_cell X.out 5).trans rfl
    obtain ⟨b, e, h⟩ := Option.bind_eq_some_iff.1 H.out
    have E := Aside0.mk e; have H1 := Aside0.mk h; clear e h H
    go_wp2_with fail
    refine (trivetref04_MayKeys.calls k A0_5 c0_5 l0_5 b W6 (Kd.C_below R.out.2.2.2 B.out) C.out.2.2.2 E.out).mono ?_
    rintro e W7 ⟨rfl, d⟩
    have B7 := Aside0.mk (below_step B.out d); have X7 := Aside0.mk (blk_below X.out d)
    clear d B E X x5
    have B := B7; have X := X7; clear B7 X7
    obtain rfl := Option.some.inj H1.out
    go_wp2_with fail
    go_ret
    exact ⟨rfl, B.out⟩
def trivetref04_replica.f (a0 : Int) : Option (Bool) := if a0 ≥ 0 then (some (decide (a0 < 5))) else (some false)
set_option maxHeartbeats 8000000 in
set_option maxRecDepth 100000 in
theorem trivetref04_replica.calls (a0 : Int) (r : Bool) (w : World) (h : trivetref04_replica.f a0 = some r) :
  Calls Tryz.prog 66 #[.int .i64 a0] w fun e w' => e = .returned (.bool r) ∧ Drawn0 w w' := by
 have H : (if a0 ≥ 0 then (some (decide (a0 < 5))) else (some false)) = some r := h
 clear h
 by_cases c2 : a0 ≥ 0
 ·rw [if_pos c2] at H
  have c2b0 : decide (0 ≤ a0) = true := decide_eq_true c2
  clear c2
  obtain rfl := Option.some.inj H
  go_enter Tryz.func66, Tryz.ntmps66
  go_wp2
  go_ret
  exact ⟨by first | rfl | (simp; done) | (simp [*]; done), by repeat (first | exact Drawn0.refl _ | apply Drawn0.step)⟩
 ·rw [if_neg c2] at H
  have c2b0 : decide (0 ≤ a0) = false := decide_eq_false c2
  clear c2
  obtain rfl := Option.some.inj H
  go_enter Tryz.func66, Tryz.ntmps66
  go_wp2
  go_ret
  exact ⟨by first | rfl | (simp; done) | (simp [*]; done), by repeat (first | exact Drawn0.refl _ | apply Drawn0.step)⟩
def trivetref04_MayEntry.l0 : Nat → Int → Int → Int → Int → List (S26) → Option (Bool)
 | 0, _, _, _, _, _ => none
 | k + 1, x3, x204000, x204001, x204002, x204003 => if x3 < (x204003.length : Int) then (if 0 ≤ x3 then ((trivetref04_MayTxn.f k ((rd_T26 x204003 x3).f0) ((rd_T26 x204003 x3).f1) ((rd_T26 x204003 x3).f2) ((rd_T26 x204003 x3).f3) ((rd_T26 x204003 x3).f4) ((rd_T26 x204003 x3).f5)).bind fun t206 => (if t206 = true then (trivetref04_MayEntry.l0 k (wrap64 (x3 + 1)) x204000 x204001 x204002 x204003) else (some false))) else (none)) else (if x204000 = 1 then ((trivetref04_replica.f x204001).bind fun t207 => (if t207 = true then ((trivetref04_count.f x204002).bind fun t208 => (if t208 = true then (if (x204003.length : Int) ≥ 1 then (some (decide ((x204003.length : Int) ≤ 16))) else (some false)) else (some false))) else (some false))) else (some false))
def trivetref04_MayEntry.f (k : Nat) (a0_0 : Int) (a0_1 : Int) (a0_2 : Int) (l0_3 : List (S26)) : Option (Bool) := if a0_0 = 0 then ((trivetref04_SameEntry.f k a0_0 a0_1 a0_2 l0_3 0 0 0 ([] : List (S26))).bind fun t204 => (some t204)) else (trivetref04_MayEntry.l0 k 0 a0_0 a0_1 a0_2 l0_3)
set_option maxHeartbeats 8000000 in
set_option maxRecDepth 100000 in
theorem trivetref04_MayEntry.calls (k : Nat) (a0_0 : Int) (a0_1 : Int) (a0_2 : Int) (A0_3 : Option Addr) (c0_3 : Nat) (l0_3 : List (S26)) (r : Bool) (w : World) (hr0_3 : Kd.C k26 w A0_3 l0_3.length l0_3) (hc0_3 : l0_3.length ≤ c0_3) (h : trivetref04_MayEntry.f k a0_0 a0_1 a0_2 l0_3 = some r) :
  Calls Tryz.prog 29 #[.agg #[.int .i64 a0_0, .int .i64 a0_1, .int .i64 a0_2, .slice A0_3 l0_3.length c0_3]] w fun e w' => e = .returned (.bool r) ∧ Below w.heap.size w w' := by
 have hu29 := Tryz.underlying29
 have hu26 := Tryz.underlying26
 have HR0_3 := Aside0.mk hr0_3
 have HC0_3 := Aside0.mk hc0_3
 clear hr0_3 hc0_3
 have HB := Aside0.mk (Below.refl w.heap.size w)
 have H : (if a0_0 = 0 then ((trivetref04_SameEntry.f k a0_0 a0_1 a0_2 l0_3 0 0 0 ([] : List (S26))).bind fun t204 => (some t204)) else (trivetref04_MayEntry.l0 k 0 a0_0 a0_1 a0_2 l0_3)) = some r := h
 clear h
 by_cases c2 : a0_0 = 0
 ·rw [if_pos c2] at H
  have c2b0 : (a0_0 == 0) = true := beq_iff_eq.mpr c2
  have c2b1 : (a0_0 != 0) = false := bne_eq_false_iff_eq.mpr c2
  clear c2
  replace H := Option.bind_eq_some_iff.mp H
  obtain ⟨t204, A30, H⟩ := H
  replace H : (some t204) = some r := H
  have A3 := Aside0.mk A30
  clear A30
  obtain rfl := Option.some.inj H
  go_enter Tryz.func29, Tryz.ntmps29
  go_wp2_with (first | ((with_reducible refine gate_dst (N := 1) rfl ?_); (try (refine gate_guard (by rfl) ?_; dsimp only)); refine box_event ?hg (N := 1) ?hd (cs := #[.int .i64 a0_0, .int .i64 a0_1, .int .i64 a0_2, .slice A0_3 l0_3.length c0_3]) (t := 29) ?hr ?_; (case hd => rfl); (case hg => rfl); (case hr => first | (go_simp; done) | (go_simp; rfl)); intro gb203 hg w4 hbox hb; have n0_ := Aside0.mk (below_step (stB HB.out) hb); have n1_ := Aside0.mk (hbox); have n2_ := Aside0.mk ((by rw [hg]; exact (below_size (stB HB.out)) : w.heap.size ≤ gb203)); have n3_ := Aside0.mk ((by rw [hg]; exact (below_size (stB HB.out)) : w.heap.size ≤ gb203)); clear HB; have HB := n0_; have BK203 := n1_; have GW203 := n2_; have GE203 := n3_; clear n0_ n1_ n2_ n3_; clear hb hbox hg; obtain ⟨hcz5_0, hcz5_1, hcz5_2, hcz5_3⟩ := bc4 BK203.out; obtain ⟨hfz5_0, hfz5_1, hfz5_2, hfz5_3⟩ := bf4 BK203.out) | ((with_reducible refine gate_callee (f := 27) rfl ?_); refine goesL_ (some 9) rfl rfl Tryz.func27 (by kernel_rfl) rfl #[.agg #[.int .i64 a0_0, .int .i64 a0_1, .int .i64 a0_2, .slice A0_3 l0_3.length c0_3], .agg #[.int .i64 0, .int .i64 0, .int .i64 0, .slice none 0 0]] rfl (by (try simp only [List.map_toArray, List.map_cons, List.map_nil]); first | done | rfl | (simp only [List.length_drop, List.length_take]; rfl)) ?_; (refine (trivetref04_SameEntry.calls k a0_0 a0_1 a0_2 _ _ l0_3 0 0 0 _ _ ([] : List (S26)) t204 _ ?side1 ?side2 ?side3 ?side4 A3.out).mono ?_); (case side1 => exact stC (Kd.C_below HR0_3.out HB.out)); (case side2 => exact HC0_3.out); (case side3 => exact Kd.C_nil _ _); (case side4 => exact Nat.le_refl _); rintro e w6 ⟨rfl, hb⟩; refine ⟨_, rfl, ?_⟩; have n0_ := Aside0.mk (blk_below (g := gb203) (o := .cells #[.int .i64 a0_0, .int .i64 a0_1, .int .i64 a0_2, .slice A0_3 l0_3.length c0_3] 29 (0, 0)) (stK BK203.out) hb); have n1_ := Aside0.mk (below_step (by repeat (first | (with_reducible first | exact HB.out | apply below_alloc | apply pw_below_drewN | apply below_drew1 | refine below_set ?_ GE203.out) | exact HB.out)) hb); clear BK203; clear HB; have BK203 := n0_; have HB := n1_; clear n0_ n1_; (try clear hb); (try clear hb2); (try clear hk); (try clear hi)))
  go_ret
  exact ⟨by first | rfl | (simp [errW_none, errW_some] <;> rfl) | (simp [*, errW_none, errW_some] <;> rfl), by repeat (first | (with_reducible first | exact HB.out | apply below_alloc | apply pw_below_drewN | apply below_drew1 | refine below_set ?_ GE203.out) | exact HB.out)⟩
 ·rw [if_neg c2] at H
  have c2b0 : (a0_0 == 0) = false := beq_eq_false_iff_ne.mpr c2
  have c2b1 : (a0_0 != 0) = true := bne_iff_ne.mpr c2
  have H' := Aside0.mk H
  clear H
  go_enter Tryz.func29, Tryz.ntmps29
  go_wp2_with (first | ((with_reducible refine gate_dst (N := 1) rfl ?_); (try (refine gate_guard (by rfl) ?_; dsimp only)); refine box_event ?hg (N := 1) ?hd (cs := #[.int .i64 a0_0, .int .i64 a0_1, .int .i64 a0_2, .slice A0_3 l0_3.length c0_3]) (t := 29) ?hr ?_; (case hd => rfl); (case hg => rfl); (case hr => first | (go_simp; done) | (go_simp; rfl)); intro gb203 hg w7 hbox hb; have n0_ := Aside0.mk (below_step (stB HB.out) hb); have n1_ := Aside0.mk (hbox); have n2_ := Aside0.mk ((by rw [hg]; exact (below_size (stB HB.out)) : w.heap.size ≤ gb203)); have n3_ := Aside0.mk ((by rw [hg]; exact (below_size (stB HB.out)) : w.heap.size ≤ gb203)); clear HB; have HB := n0_; have BK203 := n1_; have GW203 := n2_; have GE203 := n3_; clear n0_ n1_ n2_ n3_; clear hb hbox hg; obtain ⟨hcz8_0, hcz8_1, hcz8_2, hcz8_3⟩ := bc4 BK203.out; obtain ⟨hfz8_0, hfz8_1, hfz8_2, hfz8_3⟩ := bf4 BK203.out))
  go_loopg [3] k (fun kq v3 w' => ∃ (x3_1 : Int), v3 = .int .i64 x3_1 ∧ Aside0 (trivetref04_MayEntry.l0 kq x3_1 a0_0 a0_1 a0_2 l0_3 = some r) ∧ Aside0 (kq ≤ k) ∧ Aside0 (w'.heap[gb203]? = some (.cells #[.int .i64 a0_0, .int .i64 a0_1, .int .i64 a0_2, (.slice A0_3 l0_3.length c0_3)] 29 (0, 0))) ∧ Aside0 (Below w.heap.size w w'))
  case atStart => exact ⟨(0), (by first | rfl | (simp; done) | (simp [*]; done)), H', ⟨Nat.le_refl _⟩, ⟨stK BK203.out⟩, ⟨by repeat (first | (with_reducible first | exact HB.out | apply below_alloc | apply pw_below_drewN | apply below_drew1 | refine below_set ?_ GE203.out) | exact HB.out)⟩⟩
  case round =>
   clear H'
   try clear c2
   try clear c2b0
   try clear c2b1
   try clear p2
   try clear hcz5_0
   try clear hcz5_1
   try clear hcz5_2
   try clear hcz5_3
   try clear hcz8_0
   try clear hcz8_1
   try clear hcz8_2
   try clear hcz8_3
   try clear hfz5_0
   try clear hfz5_1
   try clear hfz5_2
   try clear hfz5_3
   try clear hfz8_0
   try clear hfz8_1
   try clear hfz8_2
   try clear hfz8_3
   obtain ⟨x3_1, rfl, HA, HK1, BK203, HB⟩ := hrel
   cases gk with
   | zero => exact absurd HA.out (by simp [trivetref04_MayEntry.l0])
   | succ k1 =>
    have H := HA.out
    clear HA
    simp only [trivetref04_MayEntry.l0] at H
    by_cases c9 : x3_1 < (l0_3.length : Int)
    ·rw [if_pos c9] at H
     have c9b0 : decide (x3_1 < (l0_3.length : Int)) = true := decide_eq_true c9
     clear c9
     by_cases c10 : 0 ≤ x3_1
     ·rw [if_pos c10] at H
      have c10b0 : decide (0 ≤ x3_1) = true := decide_eq_true c10
      clear c10
      replace H := Option.bind_eq_some_iff.mp H
      obtain ⟨t206, A110, H⟩ := H
      replace H : (if t206 = true then (trivetref04_MayEntry.l0 k1 (wrap64 (x3_1 + 1)) a0_0 a0_1 a0_2 l0_3) else (some false)) = some r := H
      have A11 := Aside0.mk A110
      clear A110
      by_cases c12 : t206 = true
      ·subst c12
       have H1 : (trivetref04_MayEntry.l0 k1 (wrap64 (x3_1 + 1)) a0_0 a0_1 a0_2 l0_3) = some r := by rw [if_pos rfl] at H; exact H
       clear H
       have H := H1
       clear H1
       have H' := Aside0.mk H
       clear H
       obtain ⟨hcz13_0, hcz13_1, hcz13_2, hcz13_3⟩ := bc4 BK203.out
       obtain ⟨hfz13_0, hfz13_1, hfz13_2, hfz13_3⟩ := bf4 BK203.out
       have p205 : 0 ≤ (x3_1 : Int) := of_decide_eq_true (by first | (with_reducible assumption) | assumption)
       have q205 : x3_1 < (l0_3.length : Int) := of_decide_eq_true (by first | (with_reducible assumption) | assumption)
       obtain ⟨ad205, A205_2, c205_2, A205_3, c205_3, A205_4, c205_4, A205_5, c205_5, e205, hx205_0, hx205_1, hx205_2, hx205_3, hx205_4, hx205_5, hl205_2, hi205_2, hl205_3, hi205_3, hl205_4, hi205_4, hl205_5, hi205_5⟩ := at_T26 HR0_3.out x3_1 p205 q205
       cases e205
       replace hx205_0 := cu HB.out hx205_0
       replace hx205_1 := cu HB.out hx205_1
       replace hx205_2 := cu HB.out hx205_2
       replace hx205_3 := cu HB.out hx205_3
       replace hx205_4 := cu HB.out hx205_4
       replace hx205_5 := cu HB.out hx205_5
       have HR205_2 := Aside0.mk hi205_2
       have HC205_2 := Aside0.mk hl205_2
       clear hi205_2 hl205_2
       have HR205_3 := Aside0.mk hi205_3
       have HC205_3 := Aside0.mk hl205_3
       clear hi205_3 hl205_3
       have HR205_4 := Aside0.mk hi205_4
       have HC205_4 := Aside0.mk hl205_4
       clear hi205_4 hl205_4
       have HR205_5 := Aside0.mk hi205_5
       have HC205_5 := Aside0.mk hl205_5
       clear hi205_5 hl205_5
       replace p205 := eq_true p205
       replace q205 := eq_true q205
       go_wp2_with (first | ((with_reducible refine gate_callee (f := 43) rfl ?_); refine goesL_ (some 22) rfl rfl Tryz.func43 (by kernel_rfl) rfl #[.agg #[.int .i64 ((rd_T26 l0_3 x3_1).f0), .int .i64 ((rd_T26 l0_3 x3_1).f1), .slice A205_2 ((rd_T26 l0_3 x3_1).f2).length c205_2, .slice A205_3 ((rd_T26 l0_3 x3_1).f3).length c205_3, .slice A205_4 ((rd_T26 l0_3 x3_1).f4).length c205_4, .slice A205_5 ((rd_T26 l0_3 x3_1).f5).length c205_5]] rfl (by (try simp only [List.map_toArray, List.map_cons, List.map_nil]); first | done | rfl | (simp only [List.length_drop, List.length_take]; rfl)) ?_; (with_reducible refine (trivetref04_MayTxn.calls k1 ((rd_T26 l0_3 x3_1).f0) ((rd_T26 l0_3 x3_1).f1) _ _ ((rd_T26 l0_3 x3_1).f2) _ _ ((rd_T26 l0_3 x3_1).f3) _ _ ((rd_T26 l0_3 x3_1).f4) _ _ ((rd_T26 l0_3 x3_1).f5) true _ ?side1 ?side2 ?side3 ?side4 ?side5 ?side6 ?side7 ?side8 A11.out).mono ?_); (case side1 => exact stC (Kd.C_below HR205_2.out HB.out)); (case side2 => exact HC205_2.out); (case side3 => exact stC (Kd.C_below HR205_3.out HB.out)); (case side4 => exact HC205_3.out); (case side5 => exact stC (Kd.C_below HR205_4.out HB.out)); (case side6 => exact HC205_4.out); (case side7 => exact stC (Kd.C_below HR205_5.out HB.out)); (case side8 => exact HC205_5.out); rintro e w14 ⟨rfl, hb⟩; refine ⟨_, rfl, ?_⟩; have n0_ := Aside0.mk (blk_below (g := gb203) (o := .cells #[.int .i64 a0_0, .int .i64 a0_1, .int .i64 a0_2, .slice (some ad205) l0_3.length c0_3] 29 (0, 0)) (stK BK203.out) hb); have n1_ := Aside0.mk (below_step (by repeat (first | (with_reducible first | exact HB.out | apply below_alloc | apply pw_below_drewN | apply below_drew1 | refine below_set ?_ GE203.out) | exact HB.out)) hb); clear BK203; clear HB; have BK203 := n0_; have HB := n1_; clear n0_ n1_; (try clear hb); (try clear hb2); (try clear hk); (try clear hi)))
       go_roundg k1
       case measure => have := HK1.out; omega
       case rel => exact ⟨(wrap64 (x3_1 + 1)), (by first | rfl | (simp; done) | (simp [*]; done)), H', ⟨by have := HK1.out; omega⟩, ⟨stK BK203.out⟩, ⟨by repeat (first | (with_reducible first | exact HB.out | apply below_alloc | apply pw_below_drewN | apply below_drew1 | refine below_set ?_ GE203.out) | exact HB.out)⟩⟩
      ·replace c12 := Bool.eq_false_iff.mpr c12
       subst c12
       have H1 : (some false) = some r := by rw [if_neg (show ¬ (false = true) by decide)] at H; exact H
       clear H
       have H := H1
       clear H1
       obtain rfl := Option.some.inj H
       obtain ⟨hcz15_0, hcz15_1, hcz15_2, hcz15_3⟩ := bc4 BK203.out
       obtain ⟨hfz15_0, hfz15_1, hfz15_2, hfz15_3⟩ := bf4 BK203.out
       have p205 : 0 ≤ (x3_1 : Int) := of_decide_eq_true (by first | (with_reducible assumption) | assumption)
       have q205 : x3_1 < (l0_3.length : Int) := of_decide_eq_true (by first | (with_reducible assumption) | assumption)
       obtain ⟨ad205, A205_2, c205_2, A205_3, c205_3, A205_4, c205_4, A205_5, c205_5, e205, hx205_0, hx205_1, hx205_2, hx205_3, hx205_4, hx205_5, hl205_2, hi205_2, hl205_3, hi205_3, hl205_4, hi205_4, hl205_5, hi205_5⟩ := at_T26 HR0_3.out x3_1 p205 q205
       cases e205
       replace hx205_0 := cu HB.out hx205_0
       replace hx205_1 := cu HB.out hx205_1
       replace hx205_2 := cu HB.out hx205_2
       replace hx205_3 := cu HB.out hx205_3
       replace hx205_4 := cu HB.out hx205_4
       replace hx205_5 := cu HB.out hx205_5
       have HR205_2 := Aside0.mk hi205_2
       have HC205_2 := Aside0.mk hl205_2
       clear hi205_2 hl205_2
       have HR205_3 := Aside0.mk hi205_3
       have HC205_3 := Aside0.mk hl205_3
       clear hi205_3 hl205_3
       have HR205_4 := Aside0.mk hi205_4
       have HC205_4 := Aside0.mk hl205_4
       clear hi205_4 hl205_4
       have HR205_5 := Aside0.mk hi205_5
       have HC205_5 := Aside0.mk hl205_5
       clear hi205_5 hl205_5
       replace p205 := eq_true p205
       replace q205 := eq_true q205
       go_wp2_with (first | ((with_reducible refine gate_callee (f := 43) rfl ?_); refine goesL_ (some 22) rfl rfl Tryz.func43 (by kernel_rfl) rfl #[.agg #[.int .i64 ((rd_T26 l0_3 x3_1).f0), .int .i64 ((rd_T26 l0_3 x3_1).f1), .slice A205_2 ((rd_T26 l0_3 x3_1).f2).length c205_2, .slice A205_3 ((rd_T26 l0_3 x3_1).f3).length c205_3, .slice A205_4 ((rd_T26 l0_3 x3_1).f4).length c205_4, .slice A205_5 ((rd_T26 l0_3 x3_1).f5).length c205_5]] rfl (by (try simp only [List.map_toArray, List.map_cons, List.map_nil]); first | done | rfl | (simp only [List.length_drop, List.length_take]; rfl)) ?_; (with_reducible refine (trivetref04_MayTxn.calls k1 ((rd_T26 l0_3 x3_1).f0) ((rd_T26 l0_3 x3_1).f1) _ _ ((rd_T26 l0_3 x3_1).f2) _ _ ((rd_T26 l0_3 x3_1).f3) _ _ ((rd_T26 l0_3 x3_1).f4) _ _ ((rd_T26 l0_3 x3_1).f5) false _ ?side1 ?side2 ?side3 ?side4 ?side5 ?side6 ?side7 ?side8 A11.out).mono ?_); (case side1 => exact stC (Kd.C_below HR205_2.out HB.out)); (case side2 => exact HC205_2.out); (case side3 => exact stC (Kd.C_below HR205_3.out HB.out)); (case side4 => exact HC205_3.out); (case side5 => exact stC (Kd.C_below HR205_4.out HB.out)); (case side6 => exact HC205_4.out); (case side7 => exact stC (Kd.C_below HR205_5.out HB.out)); (case side8 => exact HC205_5.out); rintro e w16 ⟨rfl, hb⟩; refine ⟨_, rfl, ?_⟩; have n0_ := Aside0.mk (blk_below (g := gb203) (o := .cells #[.int .i64 a0_0, .int .i64 a0_1, .int .i64 a0_2, .slice (some ad205) l0_3.length c0_3] 29 (0, 0)) (stK BK203.out) hb); have n1_ := Aside0.mk (below_step (by repeat (first | (with_reducible first | exact HB.out | apply below_alloc | apply pw_below_drewN | apply below_drew1 | refine below_set ?_ GE203.out) | exact HB.out)) hb); clear BK203; clear HB; have BK203 := n0_; have HB := n1_; clear n0_ n1_; (try clear hb); (try clear hb2); (try clear hk); (try clear hi)))
       go_ret
       exact ⟨by first | rfl | (simp [errW_none, errW_some] <;> rfl) | (simp [*, errW_none, errW_some] <;> rfl), by repeat (first | (with_reducible first | exact HB.out | apply below_alloc | apply pw_below_drewN | apply below_drew1 | refine below_set ?_ GE203.out) | exact HB.out)⟩
     ·rw [if_neg c10] at H
      exact absurd H (by simp)
    ·rw [if_neg c9] at H
     have c9b0 : decide (x3_1 < (l0_3.length : Int)) = false := decide_eq_false c9
     clear c9
     by_cases c17 : a0_0 = 1
     ·rw [if_pos c17] at H
      have c17b0 : (a0_0 == 1) = true := beq_iff_eq.mpr c17
      have c17b1 : (a0_0 != 1) = false := bne_eq_false_iff_eq.mpr c17
      clear c17
      replace H := Option.bind_eq_some_iff.mp H
      obtain ⟨t207, A180, H⟩ := H
      replace H : (if t207 = true then ((trivetref04_count.f a0_2).bind fun t208 => (if t208 = true then (if (l0_3.length : Int) ≥ 1 then (some (decide ((l0_3.length : Int) ≤ 16))) else (some false)) else (some false))) else (some false)) = some r := H
      have A18 := Aside0.mk A180
      clear A180
      by_cases c19 : t207 = true
      ·subst c19
       have H1 : ((trivetref04_count.f a0_2).bind fun t208 => (if t208 = true then (if (l0_3.length : Int) ≥ 1 then (some (decide ((l0_3.length : Int) ≤ 16))) else (some false)) else (some false))) = some r := by rw [if_pos rfl] at H; exact H
       clear H
       have H := H1
       clear H1
       replace H := Option.bind_eq_some_iff.mp H
       obtain ⟨t208, A200, H⟩ := H
       replace H : (if t208 = true then (if (l0_3.length : Int) ≥ 1 then (some (decide ((l0_3.length : Int) ≤ 16))) else (some false)) else (some false)) = some r := H
       have A20 := Aside0.mk A200
       clear A200
       by_cases c21 : t208 = true
       ·subst c21
        have H1 : (if (l0_3.length : Int) ≥ 1 then (some (decide ((l0_3.length : Int) ≤ 16))) else (some false)) = some r := by rw [if_pos rfl] at H; exact H
        clear H
        have H := H1
        clear H1
        by_cases c22 : (l0_3.length : Int) ≥ 1
        ·rw [if_pos c22] at H
         have c22b0 : decide (1 ≤ (l0_3.length : Int)) = true := decide_eq_true c22
         have c22b1 : decide (1 ≤ l0_3.length) = true := decide_eq_true (by omega)
         clear c22
         obtain rfl := Option.some.inj H
         obtain ⟨hcz23_0, hcz23_1, hcz23_2, hcz23_3⟩ := bc4 BK203.out
         obtain ⟨hfz23_0, hfz23_1, hfz23_2, hfz23_3⟩ := bf4 BK203.out
         go_wp2_with (first | (go_at_call 66; (with_reducible refine (trivetref04_replica.calls a0_1 true _ A18.out).mono ?_); rintro e w' ⟨rfl, ⟨nd, rfl⟩⟩) | (go_at_call 67; (with_reducible refine (trivetref04_count.calls a0_2 true _ A20.out).mono ?_); rintro e w' ⟨rfl, ⟨nd, rfl⟩⟩))
         go_ret
         exact ⟨by first | rfl | (simp [errW_none, errW_some] <;> rfl) | (simp [*, errW_none, errW_some] <;> rfl), by repeat (first | (with_reducible first | exact HB.out | apply below_alloc | apply pw_below_drewN | apply below_drew1 | refine below_set ?_ GE203.out) | exact HB.out)⟩
        ·rw [if_neg c22] at H
         have c22b0 : decide (1 ≤ (l0_3.length : Int)) = false := decide_eq_false c22
         have c22b1 : decide (1 ≤ l0_3.length) = false := decide_eq_false (by omega)
         clear c22
         obtain rfl := Option.some.inj H
         obtain ⟨hcz24_0, hcz24_1, hcz24_2, hcz24_3⟩ := bc4 BK203.out
         obtain ⟨hfz24_0, hfz24_1, hfz24_2, hfz24_3⟩ := bf4 BK203.out
         go_wp2_with (first | (go_at_call 66; (with_reducible refine (trivetref04_replica.calls a0_1 true _ A18.out).mono ?_); rintro e w' ⟨rfl, ⟨nd, rfl⟩⟩) | (go_at_call 67; (with_reducible refine (trivetref04_count.calls a0_2 true _ A20.out).mono ?_); rintro e w' ⟨rfl, ⟨nd, rfl⟩⟩))
         go_ret
         exact ⟨by first | rfl | (simp [errW_none, errW_some] <;> rfl) | (simp [*, errW_none, errW_some] <;> rfl), by repeat (first | (with_reducible first | exact HB.out | apply below_alloc | apply pw_below_drewN | apply below_drew1 | refine below_set ?_ GE203.out) | exact HB.out)⟩
       ·replace c21 := Bool.eq_false_iff.mpr c21
        subst c21
        have H1 : (some false) = some r := by rw [if_neg (show ¬ (false = true) by decide)] at H; exact H
        clear H
        have H := H1
        clear H1
        obtain rfl := Option.some.inj H
        obtain ⟨hcz25_0, hcz25_1, hcz25_2, hcz25_3⟩ := bc4 BK203.out
        obtain ⟨hfz25_0, hfz25_1, hfz25_2, hfz25_3⟩ := bf4 BK203.out
        go_wp2_with (first | (go_at_call 66; (with_reducible refine (trivetref04_replica.calls a0_1 true _ A18.out).mono ?_); rintro e w' ⟨rfl, ⟨nd, rfl⟩⟩) | (go_at_call 67; (with_reducible refine (trivetref04_count.calls a0_2 false _ A20.out).mono ?_); rintro e w' ⟨rfl, ⟨nd, rfl⟩⟩))
        go_ret
        exact ⟨by first | rfl | (simp [errW_none, errW_some] <;> rfl) | (simp [*, errW_none, errW_some] <;> rfl), by repeat (first | (with_reducible first | exact HB.out | apply below_alloc | apply pw_below_drewN | apply below_drew1 | refine below_set ?_ GE203.out) | exact HB.out)⟩
      ·replace c19 := Bool.eq_false_iff.mpr c19
       subst c19
       have H1 : (some false) = some r := by rw [if_neg (show ¬ (false = true) by decide)] at H; exact H
       clear H
       have H := H1
       clear H1
       obtain rfl := Option.some.inj H
       obtain ⟨hcz26_0, hcz26_1, hcz26_2, hcz26_3⟩ := bc4 BK203.out
       obtain ⟨hfz26_0, hfz26_1, hfz26_2, hfz26_3⟩ := bf4 BK203.out
       go_wp2_with (first | (go_at_call 66; (with_reducible refine (trivetref04_replica.calls a0_1 false _ A18.out).mono ?_); rintro e w' ⟨rfl, ⟨nd, rfl⟩⟩))
       go_ret
       exact ⟨by first | rfl | (simp [errW_none, errW_some] <;> rfl) | (simp [*, errW_none, errW_some] <;> rfl), by repeat (first | (with_reducible first | exact HB.out | apply below_alloc | apply pw_below_drewN | apply below_drew1 | refine below_set ?_ GE203.out) | exact HB.out)⟩
     ·rw [if_neg c17] at H
      have c17b0 : (a0_0 == 1) = false := beq_eq_false_iff_ne.mpr c17
      have c17b1 : (a0_0 != 1) = true := bne_iff_ne.mpr c17
      obtain rfl := Option.some.inj H
      obtain ⟨hcz27_0, hcz27_1, hcz27_2, hcz27_3⟩ := bc4 BK203.out
      obtain ⟨hfz27_0, hfz27_1, hfz27_2, hfz27_3⟩ := bf4 BK203.out
      go_wp2
      go_ret
      exact ⟨by first | rfl | (simp [errW_none, errW_some] <;> rfl) | (simp [*, errW_none, errW_some] <;> rfl), by repeat (first | (with_reducible first | exact HB.out | apply below_alloc | apply pw_below_drewN | apply below_drew1 | refine below_set ?_ GE203.out) | exact HB.out)⟩
end Go.Proofs.YtgiefblcckikeaaGreat.G
end

section
/- The reference's entries in plain Lean: SameEntry, MayEntry. -/
namespace Go.Proofs.YtgiefblcckikeaaGreat.M
open Go.RowKit Go.Proofs.YtgiefblcckikeaaGreatW.PrintWords Go.Proofs.YtgiefblcckikeaaGreatW.PrintLast Go.Proofs.YtgiefblcckikeaaGreatW.PrintMore Go.Proofs.YtgiefblcckikeaaGreat.G
def mT (t : TxD) : Nat := t.f3.length + t.f4.length + t.f5.length
theorem rdT_eq {a : List TxD} {i : Nat} {x : TxD} (h : a[i]? = some x) : G.rd_T26 a (i : Int) = x := by
 unfold G.rd_T26
 rw [Int.toNat_natCast, List.getD_eq_getElem?_getD, h]
 rfl
theorem rdK_eq {a : List KeyD} {i : Nat} {x : KeyD} (h : a[i]? = some x) : G.rd_T101 a (i : Int) = x := by
 unfold G.rd_T101
 rw [Int.toNat_natCast, List.getD_eq_getElem?_getD, h]
 rfl
theorem sameEn_l : ∀ (k : Nat) (x0 x1 x2 : Int) (a : List TxD) (y0 y1 y2 : Int) (b : List TxD) (i : Nat), (∀ t ∈ a, mT t + a.length + 1 < i + k) → a.length < i + k → i ≤ a.length → a.length = b.length → a.length ≤ 9223372036854775807 → (∀ t ∈ a, TxLe t 9223372036854775807) → G.trivetref04_SameEntry.l0 k (i : Int) x0 x1 x2 a y0 y1 y2 b = some (eqTs (a.drop i) (b.drop i))
 | 0, x0, x1, x2, a, y0, y1, y2, b, i, hf, hk, hi, _, _, _ => by omega
 | k + 1, x0, x1, x2, a, y0, y1, y2, b, i, hf, hk, hi, hl, hm, ht => by
  simp only [G.trivetref04_SameEntry.l0]
  by_cases hlt : i < a.length
  ·obtain ⟨x, hx⟩ : ∃ x, a[i]? = some x := ⟨_, List.getElem?_eq_getElem hlt⟩
   obtain ⟨y, hy⟩ : ∃ y, b[i]? = some y := ⟨_, List.getElem?_eq_getElem (by omega)⟩
   have d1 := drop_cons hx
   have d2 := drop_cons hy
   have hw : wrap64 ((i : Int) + 1) = ((i + 1 : Nat) : Int) := by unfold wrap64; omega
   have hxm := List.mem_of_getElem? hx
   have hfx := hf x hxm
   unfold mT at hfx
   rw [if_pos (by omega : (i : Int) < (a.length : Int)), if_pos (by omega : (0 : Int) ≤ (i : Int)), if_pos (by omega : (i : Int) < (b.length : Int)), rdT_eq hx, rdT_eq hy, sameTxn_r k x y (ht x hxm) ⟨by omega, by omega, by omega⟩]
   rw [Option.bind_some, d1, d2]
   cases he : eqTx x y with
   | true =>
    rw [if_pos rfl, hw, sameEn_l k x0 x1 x2 a y0 y1 y2 b (i + 1) (fun t h => by have := hf t h; omega) (by omega) (by omega) hl hm ht]
    simp [eqTs, he]
   | false =>
    rw [if_neg (by simp)]
    simp [eqTs, he]
  ·rw [if_neg (by omega), List.drop_of_length_le (by omega), List.drop_of_length_le (by omega)]
   rfl
theorem sameEn_r (k : Nat) (x0 x1 x2 : Int) (a : List TxD) (y0 y1 y2 : Int) (b : List TxD) (hf : ∀ t ∈ a, mT t + a.length + 2 < k) (hk : a.length + 1 < k) (hm : a.length ≤ 9223372036854775807) (ht : ∀ t ∈ a, TxLe t 9223372036854775807) :
  G.trivetref04_SameEntry.f k x0 x1 x2 a y0 y1 y2 b = some (eqEn x0 x1 x2 a y0 y1 y2 b) := by
 obtain ⟨k, rfl⟩ : ∃ j, k = j + 1 := ⟨k - 1, by omega⟩
 unfold G.trivetref04_SameEntry.f eqEn
 by_cases h0 : x0 = y0
 ·by_cases h1 : x1 = y1
  ·by_cases h2 : x2 = y2
   ·rw [if_pos h0, if_pos h1, if_pos h2]
    simp only [G.trivetref04_SameEntry.j0]
    by_cases hl : a.length = b.length
    ·have e : ((a.length : Int) != (b.length : Int)) = false := by rw [hl]; simp
     rw [e, if_neg (by simp)]
     have := sameEn_l k x0 x1 x2 a y0 y1 y2 b 0 (fun t h => by have := hf t h; omega) (by omega) (by omega) hl hm ht
     rw [show ((0 : Nat) : Int) = 0 from rfl] at this
     rw [this]
     simp [h0, h1, h2]
    ·have e : ((a.length : Int) != (b.length : Int)) = true := by rw [bne_iff_ne]; omega
     rw [e, if_pos rfl, eqTs_len hl]
     simp
   ·rw [if_pos h0, if_pos h1, if_neg h2]
    simp [G.trivetref04_SameEntry.j0, h2]
  ·rw [if_pos h0, if_neg h1]
   simp [G.trivetref04_SameEntry.j0, h1]
 ·rw [if_neg h0]
  simp [G.trivetref04_SameEntry.j0, h0]
theorem less_f (a b : KeyD) : G.trivetref04_Less.f a.f0 a.f1 b.f0 b.f1 = some (kLt (kv a) (kv b)) := by
 unfold G.trivetref04_Less.f kLt kv
 by_cases h : a.f0 < b.f0
 ·rw [if_pos h]; simp [h]
 ·rw [if_neg h]
  by_cases h1 : a.f0 = b.f0
  ·rw [if_pos h1]; simp [h, h1]
  ·rw [if_neg h1]; simp [h, h1]
theorem mayK_l : ∀ (k : Nat) (a : List KeyD) (i : Nat), a.length < i + k → i ≤ a.length → a.length ≤ 9223372036854775807 → G.trivetref04_MayKeys.l0 k a ((i + 1 : Nat) : Int) = some (risB (a.drop i) && decide (a.length ≤ 16))
 | 0, a, i, hk, hi, _ => by omega
 | k + 1, a, i, hk, hi, hm => by
  simp only [G.trivetref04_MayKeys.l0]
  have hw0 : wrap64 (((i + 1 : Nat) : Int) - 1) = (i : Int) := by unfold wrap64; omega
  by_cases hlt : i + 1 < a.length
  ·obtain ⟨x, hx⟩ : ∃ x, a[i]? = some x := ⟨_, List.getElem?_eq_getElem (by omega)⟩
   obtain ⟨y, hy⟩ : ∃ y, a[i + 1]? = some y := ⟨_, List.getElem?_eq_getElem hlt⟩
   have d1 := drop_cons hx
   have d2 := drop_cons hy
   have hw : wrap64 (((i + 1 : Nat) : Int) + 1) = ((i + 1 + 1 : Nat) : Int) := by unfold wrap64; omega
   rw [hw0, if_pos (by omega : ((i + 1 : Nat) : Int) < (a.length : Int)), if_pos (by omega : (0 : Int) ≤ (i : Int)), if_pos (by omega : (i : Int) < (a.length : Int)), if_pos (by omega : (0 : Int) ≤ ((i + 1 : Nat) : Int)), rdK_eq hx, rdK_eq hy, less_f, Option.bind_some]
   rw [d1, d2]
   unfold risB
   cases he : kLt (kv x) (kv y) with
   | true =>
    rw [if_pos rfl, hw, mayK_l k a (i + 1) (by omega) (by omega) hm, d2, Bool.true_and]
   | false => rw [if_neg (by simp)]; simp
  ·rw [if_neg (by omega)]
   have e1 : risB (a.drop i) = true := by
    have hl : (a.drop i).length ≤ 1 := by rw [List.length_drop]; omega
    match h : a.drop i, hl with
    | [], _ => rfl
    | [_], _ => rfl
   rw [e1, Bool.true_and]
   congr 1
   rw [Bool.eq_iff_iff, decide_eq_true_eq, decide_eq_true_eq]
   omega
theorem mayK_r (k : Nat) (a : List KeyD) (hk : a.length < k) (hm : a.length ≤ 9223372036854775807) : G.trivetref04_MayKeys.f k a = some (mayK a) := by
 unfold G.trivetref04_MayKeys.f mayK
 have := mayK_l k a 0 (by omega) (by omega) hm
 rw [show (((0 + 1 : Nat)) : Int) = 1 from rfl] at this
 rw [this, List.drop_zero, Bool.and_comm]
def TxLs (t : TxD) : Prop := t.f2.length ≤ 9223372036854775807 ∧ t.f3.length ≤ 9223372036854775807 ∧ t.f4.length ≤ 9223372036854775807 ∧ t.f5.length ≤ 9223372036854775807
theorem count_f (n : Int) : G.trivetref04_count.f n = some (decide (0 ≤ n) && decide (n ≤ 1099511627776)) := by
 unfold G.trivetref04_count.f
 by_cases h : 0 ≤ n
 ·rw [if_pos h, decide_eq_true h, Bool.true_and]
 ·rw [if_neg h, decide_eq_false h, Bool.false_and]
theorem mayT_r (k : Nat) (t : TxD) (hk : mT t < k) (hm : TxLs t) : G.trivetref04_MayTxn.f k t.f0 t.f1 t.f2 t.f3 t.f4 t.f5 = some (mayT t) := by
 unfold mT at hk
 obtain ⟨h2, h3, h4, h5⟩ := hm
 unfold G.trivetref04_MayTxn.f mayT inB
 rw [count_f, count_f, mayK_r k t.f4 (by omega) h4, mayK_r k t.f5 (by omega) h5]
 simp only [Option.bind_some, List.all_cons, List.all_nil, Bool.and_true]
 by_cases a0 : 1 ≤ t.f0 ∧ t.f0 ≤ 1099511627776
 ·have e0 : (decide (0 ≤ t.f0) && decide (t.f0 ≤ 1099511627776)) = true := by simp; omega
  have e0' : (decide (1 ≤ t.f0) && decide (t.f0 ≤ 1099511627776)) = true := by simp; omega
  rw [e0, e0', if_pos rfl, if_pos (by omega : t.f0 > 0), Bool.true_and]
  by_cases a1 : 1 ≤ t.f1 ∧ t.f1 ≤ 1099511627776
  ·have e1 : (decide (0 ≤ t.f1) && decide (t.f1 ≤ 1099511627776)) = true := by simp; omega
   have e1' : (decide (1 ≤ t.f1) && decide (t.f1 ≤ 1099511627776)) = true := by simp; omega
   rw [e1, e1', if_pos rfl, if_pos (by omega : t.f1 > 0), Bool.true_and]
   by_cases a2 : t.f2.length ≤ 512
   ·rw [if_pos (by omega), decide_eq_true a2, Bool.true_and]
    by_cases a3 : t.f3.length ≤ 8
    ·rw [if_pos (by omega), decide_eq_true a3, Bool.true_and]
     cases mayK t.f4 <;> simp
    ·rw [if_neg (by omega), decide_eq_false a3, Bool.false_and]
   ·rw [if_neg (by omega), decide_eq_false a2, Bool.false_and]
  ·have e1' : (decide (1 ≤ t.f1) && decide (t.f1 ≤ 1099511627776)) = false := by rw [← Bool.not_eq_true]; simp; omega
   rw [e1', Bool.false_and]
   cases e1 : (decide (0 ≤ t.f1) && decide (t.f1 ≤ 1099511627776)) with
   | false => simp
   | true =>
    rw [if_pos rfl, if_neg]
    simp at e1
    omega
 ·have e0' : (decide (1 ≤ t.f0) && decide (t.f0 ≤ 1099511627776)) = false := by rw [← Bool.not_eq_true]; simp; omega
  rw [e0', Bool.false_and, Bool.false_and]
  cases e0 : (decide (0 ≤ t.f0) && decide (t.f0 ≤ 1099511627776)) with
  | false => simp
  | true =>
   rw [if_pos rfl, if_neg]
   simp at e0
   omega
theorem mayE_l : ∀ (k : Nat) (x0 x1 x2 : Int) (a : List TxD) (i : Nat), (∀ t ∈ a, mT t + a.length + 1 < i + k) → a.length < i + k → i ≤ a.length → a.length ≤ 9223372036854775807 → (∀ t ∈ a, TxLs t) → G.trivetref04_MayEntry.l0 k (i : Int) x0 x1 x2 a = some ((a.drop i).all mayT && (x0 == 1 && (inB 0 4 [x1] && (inB 0 1099511627776 [x2] && inB 1 16 [(a.length : Int)]))))
 | 0, x0, x1, x2, a, i, hf, hk, hi, _, _ => by omega
 | k + 1, x0, x1, x2, a, i, hf, hk, hi, hm, ht => by
  simp only [G.trivetref04_MayEntry.l0]
  by_cases hlt : i < a.length
  ·obtain ⟨x, hx⟩ : ∃ x, a[i]? = some x := ⟨_, List.getElem?_eq_getElem hlt⟩
   have d1 := drop_cons hx
   have hw : wrap64 ((i : Int) + 1) = ((i + 1 : Nat) : Int) := by unfold wrap64; omega
   have hxm := List.mem_of_getElem? hx
   have hfx := hf x hxm
   rw [if_pos (by omega : (i : Int) < (a.length : Int)), if_pos (by omega : (0 : Int) ≤ (i : Int)), rdT_eq hx, mayT_r k x (by omega) (ht x hxm), Option.bind_some, d1, List.all_cons]
   cases he : mayT x with
   | true =>
    rw [if_pos rfl, hw, mayE_l k x0 x1 x2 a (i + 1) (fun t h => by have := hf t h; omega) (by omega) (by omega) hm ht, Bool.true_and]
   | false => rw [if_neg (by simp), Bool.false_and, Bool.false_and]
  ·rw [if_neg (by omega), List.drop_of_length_le (by omega)]
   simp only [List.all_nil, Bool.true_and]
   unfold inB G.trivetref04_replica.f
   simp only [List.all_cons, List.all_nil, Bool.and_true]
   by_cases h0 : x0 = 1
   ·rw [if_pos h0, count_f, h0]
    simp only [beq_self_eq_true, Bool.true_and]
    by_cases h1 : 0 ≤ x1
    ·rw [if_pos h1, decide_eq_true h1, Option.bind_some]
     by_cases h4 : x1 < 5
     ·rw [decide_eq_true h4, decide_eq_true (by omega : x1 ≤ 4), if_pos rfl, Option.bind_some, Bool.true_and, Bool.true_and]
      cases (decide (0 ≤ x2) && decide (x2 ≤ 1099511627776)) with
      | true =>
       rw [if_pos rfl, Bool.true_and]
       by_cases h5 : (a.length : Int) ≥ 1
       ·rw [if_pos h5, decide_eq_true (by omega : 1 ≤ (a.length : Int)), Bool.true_and]
       ·rw [if_neg h5, decide_eq_false (by omega : ¬ 1 ≤ (a.length : Int)), Bool.false_and]
      | false => rw [if_neg (by simp), Bool.false_and]
     ·rw [decide_eq_false h4, decide_eq_false (by omega : ¬ x1 ≤ 4), if_neg (by simp)]
      simp
    ·rw [if_neg h1, decide_eq_false h1, Option.bind_some, if_neg (by simp)]
     simp
   ·rw [if_neg h0]
    have : (x0 == 1) = false := by simpa using h0
    rw [this, Bool.false_and]
theorem mayE_r (k : Nat) (x0 x1 x2 : Int) (a : List TxD) (hf : ∀ t ∈ a, mT t + a.length + 2 < k) (hk : a.length + 1 < k) (hm : a.length ≤ 9223372036854775807) (ht : ∀ t ∈ a, TxLs t) :
  G.trivetref04_MayEntry.f k x0 x1 x2 a = some (mayE x0 x1 x2 a) := by
 unfold G.trivetref04_MayEntry.f mayE
 by_cases h0 : x0 = 0
 ·rw [if_pos h0, if_pos h0, sameEn_r k x0 x1 x2 a 0 0 0 [] hf hk (by omega) (fun t h => by have := ht t h; unfold TxLs at this; unfold TxLe; omega), Option.bind_some]
 ·rw [if_neg h0, if_neg h0]
  have := mayE_l k x0 x1 x2 a 0 (fun t h => by have := hf t h; omega) (by omega) (by omega) hm ht
  rw [show ((0 : Nat) : Int) = 0 from rfl] at this
  rw [this, List.drop_zero]
  congr 1
  cases a.all mayT <;> simp
end Go.Proofs.YtgiefblcckikeaaGreat.M
end

section
/- A number's bytes: one form, taken back; bytes behind strOfNums (out of XMForm). -/
namespace Go.Proofs.YtgiefblcckikeaaGreat.M
open Go.RowKit Go.Proofs.YtgiefblcckikeaaGreatW.PrintWords Go.Proofs.YtgiefblcckikeaaGreatW.PrintLast Go.Proofs.YtgiefblcckikeaaGreatW.PrintMore Go.Proofs.YtgiefblcckikeaaGreat.G
open Go.Lib (strOfNums_toList)
theorem lowB_leNum {m : List Int} (h : okB m = true) (hl : m ≠ [] → m.getD (m.length - 1) 0 ≠ 0) : lowB (leNum m).toNat = m := by
 induction m with
 | nil => simp [leNum, lowB_zero]
 | cons b r ih =>
  have hb := okB_rd h 0
  have hr : okB r = true := okB_drop h 1
  have h0 := leNum_nonneg hr
  simp [rd] at hb
  have hl' := hl (by simp)
  by_cases hre : r = []
  ·subst hre
   have hb0 : b ≠ 0 := by simpa using hl'
   simp only [leNum]
   rw [lowB_pos (by omega), show (b + 256 * 0).toNat / 256 = 0 from by omega, lowB_zero]
   congr 1
   omega
  ·have hlen : 0 < r.length := List.length_pos_iff.2 hre
   have ihr := ih hr (fun _ => by
    rw [List.length_cons, show r.length + 1 - 1 = (r.length - 1) + 1 from by omega, List.getD_cons_succ] at hl'
    exact hl')
   have hpos : (leNum r).toNat ≠ 0 := by
    intro hz
    rw [hz, lowB_zero] at ihr
    exact hre ihr.symm
   simp only [leNum]
   rw [lowB_pos (by omega), show (b + 256 * leNum r).toNat / 256 = (leNum r).toNat from by omega, ihr]
   congr 1
   omega
theorem leNum_lowB (n : Nat) : leNum (lowB n) = n := by
 induction n using Nat.strongRecOn with
 | _ n ih =>
  by_cases h0 : n = 0
  ·subst h0; simp [lowB_zero, leNum]
  ·rw [lowB_pos h0, leNum, ih (n / 256) (by omega)]
   omega
theorem lowB_ne {n : Nat} (h : n ≠ 0) : lowB n ≠ [] := by rw [lowB_pos h]; simp
theorem lowB_last (n : Nat) (h : n ≠ 0) : (lowB n).getD ((lowB n).length - 1) 0 ≠ 0 := by
 induction n using Nat.strongRecOn with
 | _ n ih =>
  rw [lowB_pos h]
  by_cases h0 : n / 256 = 0
  ·rw [h0, lowB_zero]
   simp
   omega
  ·have := ih (n / 256) (by omega) h0
   have hlen : 0 < (lowB (n / 256)).length := List.length_pos_iff.2 (lowB_ne h0)
   rw [List.length_cons, show (lowB (n / 256)).length + 1 - 1 = ((lowB (n / 256)).length - 1) + 1 from by omega, List.getD_cons_succ]
   exact this
theorem rd_cons0 (b : Int) (r : List Int) : rd (b :: r) 0 = b := rfl
theorem rd_consS (b : Int) (r : List Int) (j : Nat) (h : 0 < j) : rd (b :: r) (j : Int) = r.getD (j - 1) 0 := by
 unfold rd
 rw [Int.toNat_natCast, show j = (j - 1) + 1 from by omega, List.getD_cons_succ]
 rfl
theorem form_one {l : List Int} (h : okB l = true) (he : tkE l = 0) : numB (tkN l) = l.take (tkS l).toNat ∧ isI64 (tkN l) := by
 unfold tkE at he
 split at he
 ·omega
 rename_i hne
 split at he
 ·omega
 rename_i h1
 split at he
 ·omega
 rename_i h2
 split at he
 ·omega
 rename_i h3
 split at he
 ·omega
 rename_i h4
 obtain ⟨b, r, rfl⟩ : ∃ b r, l = b :: r := by cases l with | nil => exact absurd rfl hne | cons b r => exact ⟨b, r, rfl⟩
 have hb := okB_rd h 0
 have hr : okB r = true := okB_drop h 1
 rw [rd_cons0] at hb h1 h4
 have hK : tkK (b :: r) = (b / 2).toNat := rfl
 have hU : tkU (b :: r) = leNum (r.take (tkK (b :: r))) := rfl
 generalize hKe : tkK (b :: r) = K at *
 have hokm : okB (r.take K) = true := okB_take hr K
 have hml : (r.take K).length = K := by rw [List.length_take]; simp at h2; omega
 have hu0 := leNum_nonneg hokm
 have hlow : lowB (leNum (r.take K)).toNat = r.take K := lowB_leNum hokm (fun hm => by
  have hKp : 0 < K := by
   rcases Nat.eq_zero_or_pos K with hz | hp
   ·subst hz; simp at hm
   ·exact hp
  have h5 : rd (b :: r) (K : Int) ≠ 0 := fun hz => h3 ⟨hKp, hz⟩
  rw [rd_consS b r K hKp] at h5
  rw [hml]
  simp only [List.getD_eq_getElem?_getD, List.getElem?_take] at h5 ⊢
  rw [if_pos (by omega)]
  exact h5)
 generalize hUe : leNum (r.take K) = U at *
 rw [hU] at h4
 unfold big63 at h4
 have hpos : b % 2 = 1 → 0 < U := fun hodd => by
  have hKp : 0 < K := by omega
  rcases Int.lt_or_le 0 U with hp | hz
  ·exact hp
  ·have : U.toNat = 0 := by omega
   rw [this, lowB_zero] at hlow
   rw [← hlow] at hml
   simp at hml
   omega
 have hN : tkN (b :: r) = if b % 2 = 1 then -U else U := by
  unfold tkN
  rw [hU, rd_cons0]
  split
  ·have := hpos (by assumption)
   unfold wrap64; omega
  ·rfl
 have hS : (tkS (b :: r)).toNat = K + 1 := by unfold tkS; rw [hKe]; omega
 rw [hN, hS, List.take_succ_cons]
 by_cases hodd : b % 2 = 1
 ·rw [if_pos hodd]
  have := hpos hodd
  unfold numB mag isI64
  rw [show (-U).natAbs = U.toNat from by omega, hlow, hml, if_pos (by omega)]
  refine ⟨?_, by omega, by omega⟩
  congr 1
  omega
 ·rw [if_neg hodd]
  unfold numB mag isI64
  rw [show U.natAbs = U.toNat from by omega, hlow, hml, if_neg (by omega)]
  refine ⟨?_, by omega, by omega⟩
  congr 1
  omega
theorem form_back {n : Int} (h : isI64 n) (rest : List Int) : tkE (numB n ++ rest) = 0 ∧ tkN (numB n ++ rest) = n ∧ tkS (numB n ++ rest) = ((numB n).length : Int) := by
 have h8 := lowB_len _ 8 (mag_lt h)
 have hU0 := leNum_lowB (mag n)
 have hlast := lowB_last (mag n)
 have hz : mag n = 0 → (lowB (mag n)).length = 0 := fun hz => by rw [hz, lowB_zero]; rfl
 have hnz : mag n ≠ 0 → 0 < (lowB (mag n)).length := fun h0 => List.length_pos_iff.2 (lowB_ne h0)
 unfold numB
 have hm : mag n = n.natAbs := rfl
 unfold isI64 at h
 generalize hL : lowB (mag n) = L at *
 generalize hB : (2 * (L.length : Int) + if n < 0 then 1 else 0) = b
 have hb : b = 2 * (L.length : Int) + 1 ∧ n < 0 ∨ b = 2 * (L.length : Int) ∧ 0 ≤ n := by
  rw [← hB]; split <;> omega
 clear hB
 have hK : tkK (b :: L ++ rest) = L.length := by
  unfold tkK
  rw [List.cons_append, rd_cons0]
  omega
 have hU : tkU (b :: L ++ rest) = (mag n : Int) := by
  unfold tkU
  rw [hK, ← hU0]
  simp
 have hr0 : rd (b :: L ++ rest) 0 = b := rfl
 refine ⟨?_, ?_, ?_⟩
 ·unfold tkE
  rw [hK, hU, hr0, if_neg (by simp), if_neg (by omega), if_neg (by simp; omega), if_neg, if_neg]
  ·unfold big63; omega
  ·rintro ⟨h1, h2⟩
   have h3 := hlast (by intro h0; have := hz h0; omega)
   rw [List.cons_append, rd_consS _ _ _ h1] at h2
   apply h3
   rw [List.getD_eq_getElem?_getD] at h2 ⊢
   rw [List.getElem?_append_left (by omega)] at h2
   exact h2
 ·unfold tkN
  rw [hU, hr0]
  split
  ·unfold wrap64; omega
  ·omega
 ·unfold tkS
  rw [hK]
  simp
theorem bytesOf_inj {a b : List Int} (ha : okB a = true) (hb : okB b = true) (h : (strOfNums a).toList = (strOfNums b).toList) : a = b := by
 rw [strOfNums_toList, strOfNums_toList] at h
 unfold Go.Lib.bytesOf at h
 induction a generalizing b with
 | nil => cases b with | nil => rfl | cons y b => simp at h
 | cons x a ih =>
  cases b with
  | nil => simp at h
  | cons y b =>
   simp only [List.map_cons, List.cons.injEq] at h
   have h1 := okB_rd ha 0
   have h2 := okB_rd hb 0
   rw [rd_cons0] at h1 h2
   have h3 := congrArg UInt8.toNat h.1
   simp only [UInt8.toNat_ofNat'] at h3
   rw [ih (okB_drop ha 1) (okB_drop hb 1) h.2]
   congr 1
   omega
end Go.Proofs.YtgiefblcckikeaaGreat.M
end

section
-- Written by a program of this session's (wip/gprint.py over the kit's printer).
namespace Go.Proofs.YtgiefblcckikeaaGreat.G
open Go.RowKit Go.Proofs.YtgiefblcckikeaaGreatW.PrintWords Go.Proofs.YtgiefblcckikeaaGreatW.PrintLast Go.Proofs.YtgiefblcckikeaaGreatW.PrintMore
attribute [local go_sem] max2_int min2_int max_two min_two max_three min_three max_four min_four   -- for this text's walks alone
def record_fits.f (l0 : List Int) : Option (List Int × Int) := if (l0.length : Int) > 1048576 then (some (([] : List Int), 3)) else (some (l0, 0))
set_option maxHeartbeats 8000000 in
set_option maxRecDepth 100000 in
theorem record_fits.calls (P0_ : Nat → Prop) (u9000_ : Value) (l0 : List Int) (r1 : List Int) (r2 : Int) (w0 w : World) (hB : Below w0.heap.size w0 w) (ho0 : Kd.R (Kd.int .u8) 5 w w0.heap.size P0_ u9000_ l0) (h : record_fits.f l0 = some (r1, r2)) :
  Calls Tryz.prog 48 #[u9000_] w fun e w' => ∃ v0_ : Value, e = .returned (.tuple #[v0_, .int .i64 r2]) ∧ Kd.R (Kd.int .u8) 5 w' w0.heap.size (fun k_ => (P0_ k_ ∨ w.heap.size ≤ k_)) v0_ r1 ∧ Below w0.heap.size w0 w' ∧ Kept w w' (fun k_ => P0_ k_) := by
 have HO0 := Aside0.mk (show Kd.R (Kd.int .u8) 5 w w0.heap.size (fun k_ => (P0_ k_ ∨ w.heap.size ≤ k_)) u9000_ l0 from Kd.R_mono ho0 (fun k_ hk => (.inl hk)))
 have HK := Aside0.mk (Kept.refl w (fun k_ => P0_ k_))
 have HW0 := Aside0.mk hB.size
 have HB := Aside0.mk hB
 clear hB
 have H : (if (l0.length : Int) > 1048576 then (some (([] : List Int), 3)) else (some (l0, 0))) = some (r1, r2) := h
 clear h
 by_cases c2 : (l0.length : Int) > 1048576
 ·rw [if_pos c2] at H
  have c2b0 : decide (1048576 < (l0.length : Int)) = true := decide_eq_true c2
  have c2b1 : decide (1048576 < l0.length) = true := decide_eq_true (by omega)
  clear c2
  simp only [Option.some.injEq, Prod.mk.injEq] at H
  obtain ⟨rfl, rfl⟩ := H
  obtain ⟨Ao3, co3, eo3⟩ := Kd.R_slice HO0.out
  subst eo3
  go_enter Tryz.func48, Tryz.ntmps48
  go_wp2
  go_ret2
  exact ⟨_, by first | rfl | (simp [errW_none, errW_some] <;> rfl) | (simp [*, errW_none, errW_some] <;> rfl), by first | exact Kd.R_nil _ _ _ _ _ | exact Kd.N_nil _ _ _ _ _ | exact Kd.V_nil _ _ _ _ _ | exact Kd.Q_nil _ _ _ _ _ | exact Kd.S_nil _ _ _ _ _, stB HB.out, by repeat (first | (with_reducible first | exact HK.out | apply Kept.alloc | apply Kept.drewN | apply Kept.drew) | exact HK.out)⟩
 ·rw [if_neg c2] at H
  have c2b0 : decide (1048576 < (l0.length : Int)) = false := decide_eq_false c2
  have c2b1 : decide (1048576 < l0.length) = false := decide_eq_false (by omega)
  clear c2
  simp only [Option.some.injEq, Prod.mk.injEq] at H
  obtain ⟨rfl, rfl⟩ := H
  obtain ⟨Ao4, co4, eo4⟩ := Kd.R_slice HO0.out
  subst eo4
  go_enter Tryz.func48, Tryz.ntmps48
  go_wp2
  go_ret2
  exact ⟨_, by first | rfl | (simp [errW_none, errW_some] <;> rfl) | (simp [*, errW_none, errW_some] <;> rfl), stR HO0.out, stB HB.out, by repeat (first | (with_reducible first | exact HK.out | apply Kept.alloc | apply Kept.drewN | apply Kept.drew) | exact HK.out)⟩
end Go.Proofs.YtgiefblcckikeaaGreat.G
end

section
/- The pen writes keys and transactions. -/
attribute [local irreducible] Go.wpStill
namespace Go.Proofs.YtgiefblcckikeaaGreat.M
open Go.RowKit Go.Proofs.YtgiefblcckikeaaGreatW.PrintWords Go.Proofs.YtgiefblcckikeaaGreatW.PrintLast Go.Proofs.YtgiefblcckikeaaGreatW.PrintMore Go.Proofs.YtgiefblcckikeaaGreat.G
def keyB (k : KeyD) : List Int := numsB [k.f0, k.f1]
def keysB (l : List KeyD) : List Int := numB l.length ++ l.flatMap keyB
def txB (t : TxD) : List Int := numsB [t.f0, t.f1] ++ (numB t.f2.length ++ t.f2) ++ numB t.f3.length ++ numsB t.f3 ++ keysB t.f4 ++ keysB t.f5
def entB (k f n : Int) (l : List TxD) : List Int := if k = 0 then numB 0 else numB k ++ numsB [f, n] ++ numB l.length ++ l.flatMap txB
def okK (k : KeyD) : Bool := decide (-2147483648 ≤ k.f0 ∧ k.f0 ≤ 2147483647 ∧ isI64 k.f1)
def okT (t : TxD) : Bool := decide (isI64 t.f0) && (decide (isI64 t.f1) && (okB t.f2 && (okI t.f3 && (t.f4.all okK && t.f5.all okK))))
def okE (k f n : Int) (l : List TxD) : Bool := decide (isI64 k) && (decide (isI64 f) && (decide (isI64 n) && l.all okT))
theorem okK_i (k : KeyD) (h : okK k = true) : okI [k.f0, k.f1] = true := by
 unfold okK at h
 have h1 := of_decide_eq_true h
 have h2 : isI64 k.f0 := by unfold isI64; omega
 simp [okI, h2, h1.2.2]
theorem numsB2_len {x y : Int} (h : okI [x, y] = true) : (numsB [x, y]).length ≤ 18 := by
 have := numsB_len h
 simpa using this
theorem keyB_len {k : KeyD} (h : okK k = true) : (keyB k).length ≤ 18 := numsB2_len (okK_i k h)
theorem flat_len {α : Type} (f : α → List Int) (m : Nat) : ∀ l : List α, (∀ x ∈ l, (f x).length ≤ m) → (l.flatMap f).length ≤ m * l.length
 | [], _ => by simp
 | a :: l, h => by
  rw [List.flatMap_cons, List.length_append, List.length_cons, Nat.mul_succ]
  have := h a List.mem_cons_self
  have := flat_len f m l (fun x hx => h x (List.mem_cons_of_mem _ hx))
  omega
theorem keysB_len {l : List KeyD} (h : l.all okK = true) (hl : l.length ≤ 1000000) : (keysB l).length ≤ 9 + 18 * l.length := by
 unfold keysB
 rw [List.length_append]
 have h1 := (numB_len (n := (l.length : Int)) (by unfold isI64; omega)).2
 have h2 := flat_len keyB 18 l (fun x hx => keyB_len (List.all_eq_true.1 h x hx))
 omega
def KyL (w0 w : World) (p : Nat) (l : List Int) (ks : List KeyD) (i : Value) (wr : World) : Prop := ∃ j : Nat, i = .int .i64 j ∧ j ≤ ks.length ∧ IsPen wr w0.heap.size p (l ++ numB ks.length ++ (ks.take j).flatMap keyB) ∧ Below w0.heap.size w0 wr ∧ KeepS (fun i => i = p) w wr
set_option maxHeartbeats 1000000 in
theorem penKeys_is {w0 w : World} {p : Nat} {l : List Int} (hI : IsPen w w0.heap.size p l) (hB : Below w0.heap.size w0 w) (hp : w0.heap.size ≤ p) (B : Option Addr) (c1 : Nat) (ks : List KeyD) (hr : Kd.C G.k101 w0 B ks.length ks) (ho : ks.all okK = true) (hk : ks.length ≤ 1000000) (hs : l.length + 9 + 18 * ks.length < 140737488355328) :
  Calls Tryz.prog 148 #[.pointer (some ⟨p, 0, none⟩), .slice B ks.length c1] w fun e w' => PenP w0 w p (l ++ keysB ks) e w' := by
 have HR := Lib.hid hr; have HO := Lib.hid ho; have HP := Lib.hid hp; have HS := Lib.hid hs
 have HM := Lib.hid (many_is hI hB hp ks.length (by unfold isI64; omega) (by omega))
 have hnl := (numB_len (n := (ks.length : Int)) (by unfold isI64; omega)).2
 have HNL := Lib.hid hnl
 clear hI hB hr ho hp hs hnl
 go_enter Tryz.func148, Tryz.ntmps148
 go_wp2_with fail
 refine HM.out.mono ?_
 rintro e w1 ⟨rfl, h1, h2, h3⟩
 have H1 := Lib.hid h1; have H2 := Lib.hid h2; have H3 := Lib.hid h3
 clear h1 h2 h3 HM
 go_wp2_with fail
 go_loopw [14] (fun i wr => KyL w0 w p l ks i wr) (fun i _ => ks.length - (intOf i).toNat)
 case atStart => exact ⟨0, rfl, Nat.zero_le _, by simpa using H1.out, H2.out, H3.out⟩
 case round =>
  obtain ⟨j, rfl, hj, hI, hB, hK⟩ := hrel
  have HI := Lib.hid hI; have HB := Lib.hid hB; have HK := Lib.hid hK
  clear hI hB hK
  by_cases hlt : j < ks.length
  ·obtain ⟨x, hx⟩ : ∃ x, ks[j]? = some x := ⟨_, List.getElem?_eq_getElem hlt⟩
   obtain ⟨ad, rfl, x0, x1⟩ := keyd_get (Kd.C_below HR.out HB.out) hx
   have HX := Lib.hid (show ks.take (j + 1) = ks.take j ++ [x] by rw [List.take_add_one, hx]; rfl)
   have HOX := Lib.hid (List.all_eq_true.1 HO.out x (List.mem_of_getElem? hx))
   have hwx : IntKind.i64.wrap x.f0 = x.f0 := by
    have := HOX.out
    unfold okK at this
    have := of_decide_eq_true this
    rw [IntKind.wrap_i64]; omega
   have hbx := heap_alloc_new wr (.cells #[.int .i32 x.f0, .int .i64 x.f1] 101)
   have HB2 := Lib.hid (HB.out.alloc HB.out.size (.cells #[.int .i32 x.f0, .int .i64 x.f1] 101))
   have HI2 := Lib.hid (HI.out.below ((Below.refl _ wr).alloc (Nat.le_refl _) (.cells #[.int .i32 x.f0, .int .i64 x.f1] 101)))
   have HK2 := Lib.hid (HK.out.alloc (.cells #[.int .i32 x.f0, .int .i64 x.f1] 101))
   have HBX := Lib.hid hbx
   clear hx hbx
   go_wp2_with fail
   obtain ⟨w3, hw3⟩ : ∃ w3, wr.alloc (.cells #[.int .i32 x.f0, .int .i64 x.f1] 101) = w3 := ⟨_, rfl⟩
   rw [hw3] at HB2 HI2 HK2 HBX ⊢
   have b0 : w3.cell? ⟨wr.heap.size, 0, none⟩ = some (.int .i32 x.f0) := by simp [World.cell?, HBX.out]
   have b1 : w3.cell? ⟨wr.heap.size, 1, none⟩ = some (.int .i64 x.f1) := by simp [World.cell?, HBX.out]
   clear hw3 x0 x1
   have hl : Kd.C (Kd.int .i64) (w3.alloc (.cells #[.int .i64 x.f0, .int .i64 x.f1] 2)).drew (some ⟨w3.heap.size, 0, none⟩) 2 [x.f0, x.f1] := Kd.C_drew (C_lit w3 [x.f0, x.f1] (by simp))
   have HN := Lib.hid (nums_is (HI2.out.below (((Below.refl _ w3).alloc (Nat.le_refl _) (.cells #[.int .i64 x.f0, .int .i64 x.f1] 2)).drew)) (HB2.out.alloc HB2.out.size _).drew HP.out _ 2 [x.f0, x.f1] hl (okK_i x HOX.out) (by
    have h1 := flat_len keyB 18 (ks.take j) (fun y hy => keyB_len (List.all_eq_true.1 HO.out y (List.mem_of_mem_take hy)))
    have h2 := HNL.out; have h3 := HS.out
    rw [List.length_take] at h1
    simp only [List.length_append, List.length_cons, List.length_nil]
    omega))
   have HPL := Lib.hid (show wr.heap.size < w3.heap.size ∧ wr.heap.size ≠ p from ⟨(Array.getElem?_eq_some_iff.1 HBX.out).1, by have := HI.out.lt; omega⟩)
   clear hl
   go_region_held3 (fun w' => w'.cell? ⟨wr.heap.size, 0, none⟩ = some (.int .i32 x.f0) ∧ w'.cell? ⟨wr.heap.size, 1, none⟩ = some (.int .i64 x.f1)) (go_keep) (((refine HN.out.mono ?_; rintro e w5 ⟨rfl, h1, h2, h3⟩; have H5 := Lib.hid h1; have HB5 := Lib.hid h2; have HK5 := Lib.hid ((HK2.out.alloc (.cells #[.int .i64 x.f0, .int .i64 x.f1] 2)).drew.trans h3); have qh : w5.cell? ⟨wr.heap.size, 0, none⟩ = some (.int .i32 x.f0) := (h3.cell (p := ⟨wr.heap.size, 0, none⟩) (by have := HPL.out; simp; omega) (by exact HPL.out.2)).trans (by go_simp); have qh2 : w5.cell? ⟨wr.heap.size, 1, none⟩ = some (.int .i64 x.f1) := (h3.cell (p := ⟨wr.heap.size, 1, none⟩) (by have := HPL.out; simp; omega) (by exact HPL.out.2)).trans (by go_simp); clear h1 h2 h3)))
   clear qh qh2
   go_wp2_with fail
   go_roundw
   case rel =>
    refine ⟨j + 1, by go_num, hlt, ?_, HB5.out, HK5.out⟩
    have h1 := H5.out
    rw [HX.out, List.flatMap_append, List.flatMap_cons, List.flatMap_nil, List.append_nil, ← List.append_assoc]
    exact h1
   case measure => simp [intOf]; omega
  ·have hjn : j = ks.length := by omega
   have HF := Lib.hid (show IsPen wr w0.heap.size p (l ++ keysB ks) by
    have := HI.out
    rw [hjn, List.take_length, List.append_assoc] at this
    exact this)
   clear hjn
   go_wp2_with fail
   go_end0
   exact ⟨rfl, HF.out, HB.out, HK.out⟩
end Go.Proofs.YtgiefblcckikeaaGreat.M
end

section
/- The pen writes a transaction. -/
attribute [local irreducible] Go.wpStill
namespace Go.Proofs.YtgiefblcckikeaaGreat.M
open Go.RowKit Go.Proofs.YtgiefblcckikeaaGreatW.PrintWords Go.Proofs.YtgiefblcckikeaaGreatW.PrintLast Go.Proofs.YtgiefblcckikeaaGreatW.PrintMore Go.Proofs.YtgiefblcckikeaaGreat.G
def TxBox (W : World) (b : Nat) (x : TxD) (A2 : Option Addr) (c2 : Nat) (A3 : Option Addr) (c3 : Nat) (A4 : Option Addr) (c4 : Nat) (A5 : Option Addr) (c5 : Nat) : Prop := W.heap[b]? = some (.cells #[.int .i64 x.f0, .int .i64 x.f1, .slice A2 x.f2.length c2, .slice A3 x.f3.length c3, .slice A4 x.f4.length c4, .slice A5 x.f5.length c5] 26)
theorem TxBox.cell {W : World} {b : Nat} {x : TxD} {A2 A3 A4 A5 : Option Addr} {c2 c3 c4 c5 : Nat} (h : TxBox W b x A2 c2 A3 c3 A4 c4 A5 c5) : W.cell? ⟨b, 0, none⟩ = some (.int .i64 x.f0) ∧ W.cell? ⟨b, 1, none⟩ = some (.int .i64 x.f1) ∧ W.cell? ⟨b, 2, none⟩ = some (.slice A2 x.f2.length c2) ∧ W.cell? ⟨b, 3, none⟩ = some (.slice A3 x.f3.length c3) ∧ W.cell? ⟨b, 4, none⟩ = some (.slice A4 x.f4.length c4) ∧ W.cell? ⟨b, 5, none⟩ = some (.slice A5 x.f5.length c5) ∧ b < W.heap.size := by
 unfold TxBox at h
 exact ⟨by simp [World.cell?, h], by simp [World.cell?, h], by simp [World.cell?, h], by simp [World.cell?, h], by simp [World.cell?, h], by simp [World.cell?, h], (Array.getElem?_eq_some_iff.1 h).1⟩
theorem TxBox.keep {W W' : World} {b p : Nat} {x : TxD} {A2 A3 A4 A5 : Option Addr} {c2 c3 c4 c5 : Nat} (h : TxBox W b x A2 c2 A3 c3 A4 c4 A5 c5) (hk : KeepS (fun i => i = p) W W') (hb : b ≠ p) : TxBox W' b x A2 c2 A3 c3 A4 c4 A5 c5 := (hk.block b h.cell.2.2.2.2.2.2 hb).trans h
theorem okT_parts {x : TxD} (h : okT x = true) : okI [x.f0, x.f1] = true ∧ okB x.f2 = true ∧ okI x.f3 = true ∧ x.f4.all okK = true ∧ x.f5.all okK = true := by
 unfold okT at h
 simp only [Bool.and_eq_true, decide_eq_true_eq] at h
 obtain ⟨h1, h2, h3, h4, h5, h6⟩ := h
 exact ⟨by simp [okI, h1, h2], h3, h4, h5, h6⟩
theorem mayT_parts {x : TxD} (h : mayT x = true) : x.f2.length ≤ 512 ∧ x.f3.length ≤ 8 ∧ x.f4.length ≤ 16 ∧ x.f5.length ≤ 16 := by
 unfold mayT mayK at h
 simp only [Bool.and_eq_true, decide_eq_true_eq] at h
 exact ⟨h.2.1, h.2.2.1, h.2.2.2.1.1, h.2.2.2.2.1⟩
theorem txB_len {x : TxD} (h : okT x = true) (hm : mayT x = true) : (txB x).length ≤ 1300 := by
 obtain ⟨h1, h2, h3, h4, h5⟩ := okT_parts h
 obtain ⟨m2, m3, m4, m5⟩ := mayT_parts hm
 have e1 := numsB2_len h1
 have e2 := (numB_len (n := (x.f2.length : Int)) (by unfold isI64; omega)).2
 have e3 := (numB_len (n := (x.f3.length : Int)) (by unfold isI64; omega)).2
 have e4 := numsB_len h3
 have e5 := keysB_len h4 (by omega)
 have e6 := keysB_len h5 (by omega)
 unfold txB
 simp only [List.length_append]
 omega
set_option maxHeartbeats 2000000 in
theorem penTxn_is {w0 w : World} {p : Nat} {l : List Int} (hI : IsPen w w0.heap.size p l) (hB : Below w0.heap.size w0 w) (hp : w0.heap.size ≤ p) (x : TxD) {A2 A3 A4 A5 : Option Addr} {c2 c3 c4 c5 : Nat} (hX : TxC w0 x A2 c2 A3 c3 A4 c4 A5 c5) (hok : okT x = true) (hm : mayT x = true) (hs : l.length + 2000 < 140737488355328) :
  Calls Tryz.prog 96 #[.pointer (some ⟨p, 0, none⟩), .agg #[.int .i64 x.f0, .int .i64 x.f1, .slice A2 x.f2.length c2, .slice A3 x.f3.length c3, .slice A4 x.f4.length c4, .slice A5 x.f5.length c5]] w fun e w' => PenP w0 w p (l ++ txB x) e w' := by
 obtain ⟨o1, o2, o3, o4, o5⟩ := okT_parts hok
 obtain ⟨m2, m3, m4, m5⟩ := mayT_parts hm
 have e1 := numsB2_len o1
 have e2 := (numB_len (n := (x.f2.length : Int)) (by unfold isI64; omega)).2
 have e3 := (numB_len (n := (x.f3.length : Int)) (by unfold isI64; omega)).2
 have e4 := numsB_len o3
 have e5 := keysB_len o4 (by omega)
 have e6 := keysB_len o5 (by omega)
 have i2 : isI64 (x.f3.length : Int) := by unfold isI64; omega
 have HE := Lib.hid (And.intro e1 (And.intro e2 (And.intro e3 (And.intro e4 (And.intro e5 e6)))))
 have HO := Lib.hid (And.intro o1 (And.intro o2 (And.intro o3 (And.intro o4 o5))))
 have HM := Lib.hid (And.intro m2 (And.intro m3 (And.intro m4 m5)))
 have HI2 := Lib.hid i2
 have HP := Lib.hid hp; have HS := Lib.hid hs
 have HX := Lib.hid hX
 have HNE := Lib.hid (show w.heap.size ≠ p by have := hI.lt; omega)
 have H0 := Lib.hid (hI.below ((Below.refl _ w).alloc (Nat.le_refl _) (.cells #[.int .i64 x.f0, .int .i64 x.f1, .slice A2 x.f2.length c2, .slice A3 x.f3.length c3, .slice A4 x.f4.length c4, .slice A5 x.f5.length c5] 26)))
 have HB0 := Lib.hid (hB.alloc hB.size (.cells #[.int .i64 x.f0, .int .i64 x.f1, .slice A2 x.f2.length c2, .slice A3 x.f3.length c3, .slice A4 x.f4.length c4, .slice A5 x.f5.length c5] 26))
 have HK0 := Lib.hid ((KeepS.refl (fun i => i = p) w).alloc (.cells #[.int .i64 x.f0, .int .i64 x.f1, .slice A2 x.f2.length c2, .slice A3 x.f3.length c3, .slice A4 x.f4.length c4, .slice A5 x.f5.length c5] 26))
 have HT0 := Lib.hid (show TxBox (w.alloc (.cells #[.int .i64 x.f0, .int .i64 x.f1, .slice A2 x.f2.length c2, .slice A3 x.f3.length c3, .slice A4 x.f4.length c4, .slice A5 x.f5.length c5] 26)) w.heap.size x A2 c2 A3 c3 A4 c4 A5 c5 from heap_alloc_new w _)
 clear hI hB hp hX hok hm hs o1 o2 o3 o4 o5 m2 m3 m4 m5 e1 e2 e3 e4 e5 e6 i2
 go_enter Tryz.func96, Tryz.ntmps96
 go_wp2_with fail
 obtain ⟨b, hb⟩ : ∃ b, w.heap.size = b := ⟨_, rfl⟩
 obtain ⟨v0, hv0⟩ : ∃ v0, w.alloc (.cells #[.int .i64 x.f0, .int .i64 x.f1, .slice A2 x.f2.length c2, .slice A3 x.f3.length c3, .slice A4 x.f4.length c4, .slice A5 x.f5.length c5] 26) = v0 := ⟨_, rfl⟩
 rw [hv0] at H0 HB0 HK0 HT0 ⊢
 rw [hb] at HNE HT0 ⊢
 clear hb hv0
 obtain ⟨d0, d1, d2, d3, d4, d5, dz⟩ := HT0.out.cell
 have HD := Lib.hid (show Below v0.heap.size v0 (v0.alloc (.cells #[.int .i64 x.f0, .int .i64 x.f1] 2)).drew from ((Below.refl _ v0).alloc (Nat.le_refl _) (.cells #[.int .i64 x.f0, .int .i64 x.f1] 2)).drew)
 have HN := Lib.hid (nums_is (H0.out.below HD.out) ((HB0.out.alloc HB0.out.size _).drew) HP.out _ 2 [x.f0, x.f1] (Kd.C_drew (C_lit v0 [x.f0, x.f1] (by simp))) HO.out.1 (by have := HS.out; simp only [List.length_append, List.length_cons, List.length_nil]; omega))
 go_region_held3 (fun w' => w'.cell? ⟨b, 0, none⟩ = some (.int .i64 x.f0) ∧ w'.cell? ⟨b, 1, none⟩ = some (.int .i64 x.f1)) (go_keep) (((refine HN.out.mono ?_; rintro e v1 ⟨rfl, h1, h2, h3⟩; have H1 := Lib.hid h1; have HB1 := Lib.hid h2; have HK1 := Lib.hid (((HK0.out.alloc (.cells #[.int .i64 x.f0, .int .i64 x.f1] 2)).drew).trans h3); have HT1 := Lib.hid (HT0.out.keep ((((KeepS.refl (fun i => i = p) v0).alloc (.cells #[.int .i64 x.f0, .int .i64 x.f1] 2)).drew).trans h3) HNE.out); clear h1 h2 h3; have qh0 : v1.cell? ⟨b, 0, none⟩ = some (.int .i64 x.f0) := HT1.out.cell.1; have qh1 : v1.cell? ⟨b, 1, none⟩ = some (.int .i64 x.f1) := HT1.out.cell.2.1)))
 clear HN HD d0 d1 d2 d3 d4 d5 dz qh0 qh1
 obtain ⟨d0, d1, d2, d3, d4, d5, dz⟩ := HT1.out.cell
 have HD := Lib.hid (show Below v1.heap.size v1 v1.drew from (Below.refl v1.heap.size v1).drew)
 have HN := Lib.hid (data_is (H1.out.below HD.out) HB1.out.drew HP.out _ c2 x.f2 (Kd.C_below HX.out.g2 HB1.out.drew) HX.out.l2 (by have := HS.out; have := HE.out; have := HM.out; simp only [List.length_append]; omega))
 go_wp2_with fail
 go_region_held3 (fun w' => w'.cell? ⟨b, 2, none⟩ = some (.slice A2 x.f2.length c2)) (go_keep) (((refine HN.out.mono ?_; rintro e v2 ⟨rfl, h1, h2, h3⟩; have H2 := Lib.hid h1; have HB2 := Lib.hid h2; have HK2 := Lib.hid ((HK1.out.drew).trans h3); have HT2 := Lib.hid (HT1.out.keep (((KeepS.refl (fun i => i = p) v1).drew).trans h3) HNE.out); clear h1 h2 h3; have qh2 : v2.cell? ⟨b, 2, none⟩ = some (.slice A2 x.f2.length c2) := HT2.out.cell.2.2.1)))
 clear HN HD d0 d1 d2 d3 d4 d5 dz qh2
 obtain ⟨d0, d1, d2, d3, d4, d5, dz⟩ := HT2.out.cell
 have HD := Lib.hid (show Below v2.heap.size v2 v2.drew from (Below.refl v2.heap.size v2).drew)
 have HN := Lib.hid (many_is (H2.out.below HD.out) HB2.out.drew HP.out x.f3.length HI2.out (by have := HS.out; have := HE.out; have := HM.out; simp only [List.length_append]; omega))
 go_wp2_with fail
 go_region_held3 (fun w' => w'.cell? ⟨b, 3, none⟩ = some (.slice A3 x.f3.length c3)) (go_keep) (((refine HN.out.mono ?_; rintro e v3 ⟨rfl, h1, h2, h3⟩; have H3 := Lib.hid h1; have HB3 := Lib.hid h2; have HK3 := Lib.hid ((HK2.out.drew).trans h3); have HT3 := Lib.hid (HT2.out.keep (((KeepS.refl (fun i => i = p) v2).drew).trans h3) HNE.out); clear h1 h2 h3; have qh3 : v3.cell? ⟨b, 3, none⟩ = some (.slice A3 x.f3.length c3) := HT3.out.cell.2.2.2.1)))
 clear HN HD d0 d1 d2 d3 d4 d5 dz qh3
 obtain ⟨d0, d1, d2, d3, d4, d5, dz⟩ := HT3.out.cell
 have HD := Lib.hid (show Below v3.heap.size v3 v3.drew from (Below.refl v3.heap.size v3).drew)
 have HN := Lib.hid (nums_is (H3.out.below HD.out) HB3.out.drew HP.out _ c3 x.f3 (Kd.C_below HX.out.g3 HB3.out.drew) HO.out.2.2.1 (by have := HS.out; have := HE.out; have := HM.out; simp only [List.length_append]; omega))
 go_wp2_with fail
 go_region_held3 (fun w' => w'.cell? ⟨b, 3, none⟩ = some (.slice A3 x.f3.length c3)) (go_keep) (((refine HN.out.mono ?_; rintro e v4 ⟨rfl, h1, h2, h3⟩; have H4 := Lib.hid h1; have HB4 := Lib.hid h2; have HK4 := Lib.hid ((HK3.out.drew).trans h3); have HT4 := Lib.hid (HT3.out.keep (((KeepS.refl (fun i => i = p) v3).drew).trans h3) HNE.out); clear h1 h2 h3; have qh3 : v4.cell? ⟨b, 3, none⟩ = some (.slice A3 x.f3.length c3) := HT4.out.cell.2.2.2.1)))
 clear HN HD d0 d1 d2 d3 d4 d5 dz qh3
 obtain ⟨d0, d1, d2, d3, d4, d5, dz⟩ := HT4.out.cell
 go_wp2_with fail
 refine (penKeys_is H4.out HB4.out HP.out _ c4 x.f4 HX.out.g4 HO.out.2.2.2.1 (by have := HM.out; omega) (by have := HS.out; have := HE.out; have := HM.out; simp only [List.length_append]; omega)).mono ?_
 rintro e v5 ⟨rfl, h1, h2, h3⟩
 have H5 := Lib.hid h1; have HB5 := Lib.hid h2; have HK5 := Lib.hid (HK4.out.trans h3); have HT5 := Lib.hid (HT4.out.keep h3 HNE.out)
 clear h1 h2 h3 d0 d1 d2 d3 d4 d5 dz
 obtain ⟨d0, d1, d2, d3, d4, d5, dz⟩ := HT5.out.cell
 go_wp2_with fail
 refine (penKeys_is H5.out HB5.out HP.out _ c5 x.f5 HX.out.g5 HO.out.2.2.2.2 (by have := HM.out; omega) (by have := HS.out; have := HE.out; have := HM.out; simp only [List.length_append]; omega)).mono ?_
 rintro e v6 ⟨rfl, h1, h2, h3⟩
 have H6 := Lib.hid h1; have HB6 := Lib.hid h2; have HK6 := Lib.hid (HK5.out.trans h3); have HT6 := Lib.hid (HT5.out.keep h3 HNE.out)
 clear h1 h2 h3 d0 d1 d2 d3 d4 d5 dz
 go_wp2_with fail
 go_end0
 refine ⟨rfl, ?_, HB6.out, HK6.out⟩
 have := H6.out
 unfold txB
 simp only [List.append_assoc] at this ⊢
 exact this
end Go.Proofs.YtgiefblcckikeaaGreat.M
end

section
/- The pen writes an entry. -/
attribute [local irreducible] Go.wpStill
namespace Go.Proofs.YtgiefblcckikeaaGreat.M
open Go.RowKit Go.Proofs.YtgiefblcckikeaaGreatW.PrintWords Go.Proofs.YtgiefblcckikeaaGreatW.PrintLast Go.Proofs.YtgiefblcckikeaaGreatW.PrintMore Go.Proofs.YtgiefblcckikeaaGreat.G
theorem EnBox.keep {W W' : World} {b p : Nat} {k f n : Int} {A : Option Addr} {m c : Nat} (h : EnBox W b k f n A m c) (hk : KeepS (fun i => i = p) W W') (hb : b ≠ p) : EnBox W' b k f n A m c := (hk.block b h.cell.2.2.2.2 hb).trans h
theorem mayE_one {k f n : Int} {l : List TxD} (h : mayE k f n l = true) (hk : k ≠ 0) : k = 1 ∧ l.length ≤ 16 ∧ l.all mayT = true := by
 unfold mayE at h
 rw [if_neg hk] at h
 simp only [Bool.and_eq_true, beq_iff_eq] at h
 obtain ⟨h1, _, _, h4, h5⟩ := h
 unfold inB at h4
 simp only [List.all_cons, List.all_nil, Bool.and_true, Bool.and_eq_true, decide_eq_true_eq] at h4
 exact ⟨h1, by omega, h5⟩
theorem okE_parts {k f n : Int} {l : List TxD} (h : okE k f n l = true) : isI64 k ∧ okI [f, n] = true ∧ l.all okT = true := by
 unfold okE at h
 simp only [Bool.and_eq_true, decide_eq_true_eq] at h
 exact ⟨h.1, by simp [okI, h.2.1, h.2.2.1], h.2.2.2⟩
theorem entB_len {k f n : Int} {l : List TxD} (h : okE k f n l = true) (hm : mayE k f n l = true) : (entB k f n l).length ≤ 25000 := by
 obtain ⟨h1, h2, h3⟩ := okE_parts h
 unfold entB
 by_cases hk : k = 0
 ·rw [if_pos hk]
  have := (numB_len (n := 0) (by decide)).2
  omega
 ·obtain ⟨_, h5, h6⟩ := mayE_one hm hk
  rw [if_neg hk]
  have e1 := (numB_len h1).2
  have e2 := numsB2_len h2
  have e3 := (numB_len (n := (l.length : Int)) (by unfold isI64; omega)).2
  have e4 := flat_len txB 1300 l (fun x hx => txB_len (List.all_eq_true.1 h3 x hx) (List.all_eq_true.1 h6 x hx))
  simp only [List.length_append]
  omega
theorem TxAt.below {w w' : World} {p : Addr} {x : TxD} {A2 A3 A4 A5 : Option Addr} {c2 c3 c4 c5 : Nat} (h : TxAt w p x A2 c2 A3 c3 A4 c4 A5 c5) (hb : Below w.heap.size w w') : TxAt w' p x A2 c2 A3 c3 A4 c4 A5 c5 := by
 have hz : p.block < w.heap.size := World.block_lt_of_cell? _ _ h.e0
 exact ⟨(hb.cell (p := p) hz).trans h.e0, (hb.cell (p := ⟨p.block, _, none⟩) hz).trans h.e1, (hb.cell (p := ⟨p.block, _, none⟩) hz).trans h.e2, (hb.cell (p := ⟨p.block, _, none⟩) hz).trans h.e3, (hb.cell (p := ⟨p.block, _, none⟩) hz).trans h.e4, (hb.cell (p := ⟨p.block, _, none⟩) hz).trans h.e5⟩
def EnL (w0 w : World) (p : Nat) (l0 : List Int) (l : List TxD) (i : Value) (wr : World) : Prop := ∃ j : Nat, i = .int .i64 j ∧ j ≤ l.length ∧ IsPen wr w0.heap.size p (l0 ++ (l.take j).flatMap txB) ∧ Below w0.heap.size w0 wr ∧ KeepS (fun i => i = p) w wr
set_option maxHeartbeats 2000000 in
theorem penEntry_is {w0 w : World} {p : Nat} {l0 : List Int} (hI : IsPen w w0.heap.size p l0) (hB : Below w0.heap.size w0 w) (hp : w0.heap.size ≤ p) (k f n : Int) (A : Option Addr) (c : Nat) (l : List TxD) (hC : Kd.C G.k26 w0 A l.length l) (hok : okE k f n l = true) (hm : mayE k f n l = true) (hs : l0.length + 30000 < 140737488355328) :
  Calls Tryz.prog 47 #[.pointer (some ⟨p, 0, none⟩), .agg #[.int .i64 k, .int .i64 f, .int .i64 n, .slice A l.length c]] w fun e w' => PenP w0 w p (l0 ++ entB k f n l) e w' := by
 obtain ⟨o1, o2, o3⟩ := okE_parts hok
 have e1 := (numB_len o1).2
 have e2 := numsB2_len o2
 have HE := Lib.hid (And.intro e1 e2)
 have HO := Lib.hid (And.intro o1 (And.intro o2 o3))
 have HM := Lib.hid hm
 have HC := Lib.hid hC
 have HP := Lib.hid hp; have HS := Lib.hid hs
 have hlm : l.length ≤ 9223372036854775807 := hC.2.1
 have HNE := Lib.hid (show w.heap.size ≠ p by have := hI.lt; omega)
 have H0 := Lib.hid (hI.below ((Below.refl _ w).alloc (Nat.le_refl _) (.cells #[.int .i64 k, .int .i64 f, .int .i64 n, .slice A l.length c] 29)))
 have HB0 := Lib.hid (hB.alloc hB.size (.cells #[.int .i64 k, .int .i64 f, .int .i64 n, .slice A l.length c] 29))
 have HK0 := Lib.hid ((KeepS.refl (fun i => i = p) w).alloc (.cells #[.int .i64 k, .int .i64 f, .int .i64 n, .slice A l.length c] 29))
 have HT0 := Lib.hid (show EnBox (w.alloc (.cells #[.int .i64 k, .int .i64 f, .int .i64 n, .slice A l.length c] 29)) w.heap.size k f n A l.length c from heap_alloc_new w _)
 clear hI hB hp hC hok hm hs o1 o2 o3 e1 e2
 go_enter Tryz.func47, Tryz.ntmps47
 go_wp2_with fail
 obtain ⟨b, hb⟩ : ∃ b, w.heap.size = b := ⟨_, rfl⟩
 obtain ⟨v0, hv0⟩ : ∃ v0, w.alloc (.cells #[.int .i64 k, .int .i64 f, .int .i64 n, .slice A l.length c] 29) = v0 := ⟨_, rfl⟩
 rw [hv0] at H0 HB0 HK0 HT0 ⊢
 rw [hb] at HNE HT0 ⊢
 clear hb hv0
 obtain ⟨d0, d1, d2, d3, dz⟩ := HT0.out.cell
 have HD := Lib.hid (show Below v0.heap.size v0 v0.drew from (Below.refl _ _).drew)
 have HN := Lib.hid (many_is (H0.out.below HD.out) HB0.out.drew HP.out k HO.out.1 (by have := HS.out; omega))
 go_region_held3 (fun w' => w'.cell? ⟨b, 0, none⟩ = some (.int .i64 k)) (go_keep) (((refine HN.out.mono ?_; rintro e v1 ⟨rfl, h1, h2, h3⟩; have H1 := Lib.hid h1; have HB1 := Lib.hid h2; have HK1 := Lib.hid (HK0.out.drew.trans h3); have HT1 := Lib.hid (HT0.out.keep (((KeepS.refl (fun i => i = p) v0).drew).trans h3) HNE.out); clear h1 h2 h3; have qh0 : v1.cell? ⟨b, 0, none⟩ = some (.int .i64 k) := HT1.out.cell.1)))
 clear HN HD d0 d1 d2 d3 dz
 cases hk : (k == 0) with
 | true =>
  have hk0 : k = 0 := by simpa using hk
  have HF := Lib.hid (show IsPen v1 w0.heap.size p (l0 ++ entB k f n l) by unfold entB; rw [if_pos hk0, ← hk0]; exact H1.out)
  clear hk0
  go_wp2_with fail
  go_end0
  exact ⟨rfl, HF.out, HB1.out, HK1.out⟩
 | false =>
  have hk0 : k ≠ 0 := by simpa using hk
  obtain ⟨m1, m2, m3⟩ := mayE_one HM.out hk0
  have HMM := Lib.hid (And.intro m2 m3)
  have HK0 := Lib.hid hk0
  have i2 : isI64 (l.length : Int) := by unfold isI64; omega
  have HI2 := Lib.hid i2
  have e3 := (numB_len i2).2
  have HE3 := Lib.hid e3
  clear hk0 m1 m2 m3 i2 e3
  go_wp2_with fail
  obtain ⟨d0, d1, d2, d3, dz⟩ := HT1.out.cell
  have HD := Lib.hid (show Below v1.heap.size v1 (v1.alloc (.cells #[.int .i64 f, .int .i64 n] 2)).drew from ((Below.refl _ v1).alloc (Nat.le_refl _) _).drew)
  have HN := Lib.hid (nums_is (H1.out.below HD.out) ((HB1.out.alloc HB1.out.size _).drew) HP.out _ 2 [f, n] (Kd.C_drew (C_lit v1 [f, n] (by simp))) HO.out.2.1 (by have := HS.out; have := HE.out; simp only [List.length_append, List.length_cons, List.length_nil]; omega))
  go_region_held3 (fun w' => w'.cell? ⟨b, 1, none⟩ = some (.int .i64 f) ∧ w'.cell? ⟨b, 2, none⟩ = some (.int .i64 n)) (go_keep) (((refine HN.out.mono ?_; rintro e v2 ⟨rfl, h1, h2, h3⟩; have H2 := Lib.hid h1; have HB2 := Lib.hid h2; have HK2 := Lib.hid (((HK1.out.alloc (.cells #[.int .i64 f, .int .i64 n] 2)).drew).trans h3); have HT2 := Lib.hid (HT1.out.keep ((((KeepS.refl (fun i => i = p) v1).alloc (.cells #[.int .i64 f, .int .i64 n] 2)).drew).trans h3) HNE.out); clear h1 h2 h3; have qh1 : v2.cell? ⟨b, 1, none⟩ = some (.int .i64 f) := HT2.out.cell.2.1; have qh2 : v2.cell? ⟨b, 2, none⟩ = some (.int .i64 n) := HT2.out.cell.2.2.1)))
  clear HN HD d0 d1 d2 d3 dz qh1 qh2 qh0
  obtain ⟨d0, d1, d2, d3, dz⟩ := HT2.out.cell
  have HD := Lib.hid (show Below v2.heap.size v2 v2.drew from (Below.refl _ _).drew)
  have HN := Lib.hid (many_is (H2.out.below HD.out) HB2.out.drew HP.out l.length HI2.out (by have := HS.out; have := HE.out; simp only [List.length_append]; omega))
  go_wp2_with fail
  go_region_held3 (fun w' => w'.cell? ⟨b, 3, none⟩ = some (.slice A l.length c)) (go_keep) (((refine HN.out.mono ?_; rintro e v3 ⟨rfl, h1, h2, h3⟩; have H3 := Lib.hid h1; have HB3 := Lib.hid h2; have HK3 := Lib.hid (HK2.out.drew.trans h3); have HT3 := Lib.hid (HT2.out.keep (((KeepS.refl (fun i => i = p) v2).drew).trans h3) HNE.out); clear h1 h2 h3; have qh3 : v3.cell? ⟨b, 3, none⟩ = some (.slice A l.length c) := HT3.out.cell.2.2.2.1)))
  clear HN HD d0 d1 d2 d3 dz
  obtain ⟨la, hla⟩ : ∃ la, l0 ++ numB k ++ numsB [f, n] ++ numB l.length = la := ⟨_, rfl⟩
  rw [hla] at H3
  have HLA := Lib.hid hla
  have HLL := Lib.hid (show la.length ≤ l0.length + 40 by rw [← hla]; have := HE.out; have := HE3.out; simp only [List.length_append]; omega)
  clear hla
  go_wp2_with fail
  go_loopw [34] (fun i wr => EnL w0 w p la l i wr) (fun i _ => l.length - (intOf i).toNat)
  case atStart => exact ⟨0, rfl, Nat.zero_le _, by simpa using H3.out, HB3.out, HK3.out⟩
  case round =>
   obtain ⟨j, rfl, hj, hI, hB, hK⟩ := hrel
   have HI := Lib.hid hI; have HB := Lib.hid hB; have HKj := Lib.hid hK
   clear hI hB hK
   by_cases hlt : j < l.length
   ·obtain ⟨x, hx⟩ : ∃ x, l[j]? = some x := ⟨_, List.getElem?_eq_getElem hlt⟩
    obtain ⟨ad, A2, c2, A3, c3, A4, c4, A5, c5, rfl, hAt, hTC⟩ := tx_get HC.out hx
    obtain ⟨x0, x1, x2, x3, x4, x5⟩ := hAt.below HB.out
    have HTC := Lib.hid hTC
    have HX := Lib.hid (show l.take (j + 1) = l.take j ++ [x] by rw [List.take_add_one, hx]; rfl)
    have HOX := Lib.hid (And.intro (List.all_eq_true.1 HO.out.2.2 x (List.mem_of_getElem? hx)) (List.all_eq_true.1 HMM.out.2 x (List.mem_of_getElem? hx)))
    have HLJ := Lib.hid (show (la ++ (l.take j).flatMap txB).length + 2000 < 140737488355328 by
     have h1 := flat_len txB 1300 (l.take j) (fun y hy => txB_len (List.all_eq_true.1 HO.out.2.2 y (List.mem_of_mem_take hy)) (List.all_eq_true.1 HMM.out.2 y (List.mem_of_mem_take hy)))
     have h2 := HMM.out.1; have h3 := HLL.out; have h4 := HS.out
     rw [List.length_take] at h1
     rw [List.length_append]
     omega)
    have HI5 := Lib.hid (HI.out.below ((Below.refl _ wr).alloc (Nat.le_refl _) (.cells #[.int .i64 x.f0, .int .i64 x.f1, .slice A2 x.f2.length c2, .slice A3 x.f3.length c3, .slice A4 x.f4.length c4, .slice A5 x.f5.length c5] 26)))
    have HB5 := Lib.hid (HB.out.alloc HB.out.size (.cells #[.int .i64 x.f0, .int .i64 x.f1, .slice A2 x.f2.length c2, .slice A3 x.f3.length c3, .slice A4 x.f4.length c4, .slice A5 x.f5.length c5] 26))
    have HK5 := Lib.hid (HKj.out.alloc (.cells #[.int .i64 x.f0, .int .i64 x.f1, .slice A2 x.f2.length c2, .slice A3 x.f3.length c3, .slice A4 x.f4.length c4, .slice A5 x.f5.length c5] 26))
    clear hx hAt hTC
    go_wp2_with fail
    refine (penTxn_is HI5.out HB5.out HP.out x HTC.out HOX.out.1 HOX.out.2 HLJ.out).mono ?_
    rintro e w6 ⟨rfl, h1, h2, h3⟩
    have H6 := Lib.hid h1; have HB6 := Lib.hid h2; have HK6 := Lib.hid (HK5.out.trans h3)
    clear h1 h2 h3 x0 x1 x2 x3 x4 x5
    go_wp2_with fail
    go_roundw
    case rel =>
     refine ⟨j + 1, by go_num, hlt, ?_, HB6.out, HK6.out⟩
     have h1 := H6.out
     rw [HX.out, List.flatMap_append, List.flatMap_cons, List.flatMap_nil, List.append_nil, ← List.append_assoc]
     exact h1
    case measure => simp [intOf]; omega
   ·have hjn : j = l.length := by omega
    have HF := Lib.hid (show IsPen wr w0.heap.size p (l0 ++ entB k f n l) by
     have := HI.out
     rw [hjn, List.take_length, ← HLA.out] at this
     unfold entB
     rw [if_neg HK0.out]
     simp only [List.append_assoc] at this ⊢
     exact this)
    clear hjn
    go_wp2_with fail
    go_end0
    exact ⟨rfl, HF.out, HB.out, HKj.out⟩
end Go.Proofs.YtgiefblcckikeaaGreat.M
end

section
/- record.Entry. -/
namespace Go.Proofs.YtgiefblcckikeaaGreat.M
open Go.RowKit Go.Proofs.YtgiefblcckikeaaGreatW.PrintWords Go.Proofs.YtgiefblcckikeaaGreatW.PrintLast Go.Proofs.YtgiefblcckikeaaGreatW.PrintMore Go.Proofs.YtgiefblcckikeaaGreat.G
def BytesP (w : World) (l : List Int) (x : Int) (e : Ending) (w' : World) : Prop := ∃ v0_ : Value, e = .returned (.tuple #[v0_, .int .i64 x]) ∧ Kd.R (Kd.int .u8) 5 w' w.heap.size (fun _ => True) v0_ l ∧ Below w.heap.size w w'
theorem fits_is {w0 w : World} {ok : Nat → Prop} {v : Value} {l : List Int} (hB : Below w0.heap.size w0 w) (hv : Kd.R (Kd.int .u8) 5 w w0.heap.size ok v l) :
  Calls Tryz.prog 48 #[v] w fun e w' => BytesP w0 (if 1048576 < l.length then [] else l) (if 1048576 < l.length then 3 else 0) e w' := by
 refine (G.record_fits.calls ok v l (if 1048576 < l.length then [] else l) (if 1048576 < l.length then 3 else 0) w0 w hB hv ?_).mono ?_
 ·unfold G.record_fits.f
  by_cases h : 1048576 < l.length
  ·rw [if_pos (by omega), if_pos h, if_pos h]
  ·rw [if_neg (by omega), if_neg h, if_neg h]
 ·rintro e w' ⟨v0, rfl, h1, h2, _⟩
  exact ⟨v0, rfl, Kd.R_mono h1 (fun _ _ => trivial), h2⟩
def entF (k f n : Int) (l : List TxD) : List Int × Int := if mayE k f n l = true then (if 1048576 < (entB k f n l).length then ([], 3) else (entB k f n l, 0)) else ([], 40)
set_option maxHeartbeats 1000000 in
theorem entry_is (k f n : Int) (A : Option Addr) (c : Nat) (l : List TxD) (w : World) (hr : Kd.C G.k26 w A l.length l) (ho : okE k f n l = true) :
  Calls Tryz.prog 18 #[.agg #[.int .i64 k, .int .i64 f, .int .i64 n, .slice A l.length c]] w fun e w' => BytesP w (entF k f n l).1 (entF k f n l).2 e w' := by
 have HO := Lib.hid ho
 have HB1 := Lib.hid (show Below w.heap.size w (w.alloc (.cells #[.int .i64 k, .int .i64 f, .int .i64 n, .slice A l.length c] 29)) from (Below.refl _ _).alloc (Nat.le_refl _) _)
 have HX1 := Lib.hid (show EnBox (w.alloc (.cells #[.int .i64 k, .int .i64 f, .int .i64 n, .slice A l.length c] 29)) w.heap.size k f n A l.length c from heap_alloc_new w _)
 have HR1 := Lib.hid (Kd.C_below hr HB1.out)
 have HR := Lib.hid hr
 clear hr ho
 go_enter Tryz.func18, Tryz.ntmps18
 go_wp2_with fail
 refine (mayEn_is k f n A c l _ HR1.out).mono ?_
 rintro e w2 ⟨rfl, hb⟩
 have HB2 := Lib.hid (below_then HB1.out hb); have HX2 := Lib.hid (HX1.out.below hb)
 clear hb
 cases hm : mayE k f n l with
 | false =>
  have HF := Lib.hid (show entF k f n l = ([], 40) by unfold entF; rw [if_neg (by rw [hm]; simp)])
  clear hm
  go_wp2_with fail
  go_ret2
  refine ⟨.slice none 0 0, by rw [HF.out]; rfl, by rw [HF.out]; exact Kd.R_nil _ _ _ _ _, HB2.out⟩
 | true =>
  have HM := Lib.hid hm
  have HF := Lib.hid (show entF k f n l = (if 1048576 < (entB k f n l).length then [] else entB k f n l, if 1048576 < (entB k f n l).length then 3 else 0) by
   unfold entF
   rw [if_pos hm]
   split <;> rfl)
  clear hm
  go_wp2_with fail
  refine (newPen_is none 0 [] w2 (Kd.C_nil _ _) (by simp) (by simp)).mono ?_
  rintro e w3 ⟨p, rfl, hI, hb⟩
  have HB3 := Lib.hid (below_then HB2.out hb); have HX3 := Lib.hid (HX2.out.below hb)
  have HI3 := Lib.hid (show IsPen w3 w.heap.size p [] by
   obtain ⟨A', c', h1, h2, h3, h4⟩ := hI
   have hz := HB2.out.size
   exact ⟨A', c', h1, by omega, h3, Kd.R_lower h4 hz⟩)
  obtain ⟨d0, d1, d2, d3, dz⟩ := HX3.out.cell
  clear hI hb
  go_wp2_with fail
  refine (penEntry_is HI3.out HB3.out HI3.out.ge k f n A c l HR.out HO.out HM.out (by simp)).mono ?_
  rintro e w4 ⟨rfl, h1, h2, h3⟩
  have HB4 := Lib.hid h2
  obtain ⟨A', c', hh, _, hc', hR⟩ := h1
  have HRR := Lib.hid hR
  rw [List.nil_append] at hh HRR
  obtain ⟨bs, hbs⟩ : ∃ bs, entB k f n l = bs := ⟨_, rfl⟩
  rw [hbs] at hh HRR HF
  have p0 : w4.cell? ⟨p, 0, none⟩ = some (.slice A' bs.length c') := by simp [World.cell?, hh]
  clear h2 h3 hh hc' hR hbs d0 d1 d2 d3 dz
  go_wp2_with fail
  refine (fits_is HB4.out HRR.out).mono ?_
  rintro e w5 ⟨v, rfl, hv, hb⟩
  have HV := Lib.hid hv; have HB5 := Lib.hid hb
  clear hv hb
  obtain ⟨q, hq⟩ : ∃ q : Int, (if 1048576 < bs.length then 3 else 0) = q := ⟨_, rfl⟩
  rw [hq] at HF ⊢
  clear hq
  go_wp2_with fail
  go_ret2
  exact ⟨v, by rw [HF.out]; rfl, by rw [HF.out]; exact HV.out, HB5.out⟩
end Go.Proofs.YtgiefblcckikeaaGreat.M
namespace Go.Proofs.YtgiefblcckikeaaGreat.G
open Go.RowKit Go.Proofs.YtgiefblcckikeaaGreatW.PrintWords Go.Proofs.YtgiefblcckikeaaGreat.M
def record_Entry.f (a0_0 a0_1 a0_2 : Int) (l0_3 : List S26) : Option (List Int × Int) := if okE a0_0 a0_1 a0_2 l0_3 = true then some (entF a0_0 a0_1 a0_2 l0_3) else none
theorem record_Entry.calls (a0_0 a0_1 a0_2 : Int) (A0_3 : Option Addr) (c0_3 : Nat) (l0_3 : List S26) (r1 : List Int) (r2 : Int) (w : World) (hr0_3 : Kd.C k26 w A0_3 l0_3.length l0_3) (hc0_3 : l0_3.length ≤ c0_3) (h : record_Entry.f a0_0 a0_1 a0_2 l0_3 = some (r1, r2)) :
  Calls Tryz.prog 18 #[.agg #[.int .i64 a0_0, .int .i64 a0_1, .int .i64 a0_2, .slice A0_3 l0_3.length c0_3]] w fun e w' => ∃ v0_ : Value, e = .returned (.tuple #[v0_, .int .i64 r2]) ∧ Kd.R (Kd.int .u8) 5 w' w.heap.size (fun _ => True) v0_ r1 ∧ Below w.heap.size w w' := by
 unfold record_Entry.f at h
 split at h
 ·rename_i ho
  have h := Option.some.inj h
  have := entry_is a0_0 a0_1 a0_2 A0_3 c0_3 l0_3 w hr0_3 ho
  rw [h] at this
  exact this
 ·cases h
end Go.Proofs.YtgiefblcckikeaaGreat.G
end

section
/- Entries' and transactions' bytes in plain Lean: from the front of them they are known. -/
namespace Go.Proofs.YtgiefblcckikeaaGreat.M
open Go.RowKit Go.Proofs.YtgiefblcckikeaaGreatW.PrintWords Go.Proofs.YtgiefblcckikeaaGreatW.PrintLast Go.Proofs.YtgiefblcckikeaaGreatW.PrintMore Go.Proofs.YtgiefblcckikeaaGreat.G
def TxP1 (t : TxD) : Prop := okT t = true ∧ mayT t = true
theorem mayT_len {t : TxD} (h : mayT t = true) : t.f2.length ≤ 512 ∧ t.f3.length ≤ 8 ∧ t.f4.length ≤ 16 ∧ t.f5.length ≤ 16 := by
 unfold mayT mayK at h
 simp only [Bool.and_eq_true, decide_eq_true_eq] at h
 omega
theorem okT_all {t : TxD} (h : okT t = true) : isI64 t.f0 ∧ isI64 t.f1 ∧ okB t.f2 = true ∧ (∀ x ∈ t.f3, isI64 x) ∧ (∀ x ∈ t.f4, okK x = true) ∧ (∀ x ∈ t.f5, okK x = true) := by
 unfold okT at h
 simp only [Bool.and_eq_true, decide_eq_true_eq] at h
 obtain ⟨h0, h1, h2, h3, h4, h5⟩ := h
 refine ⟨h0, h1, h2, fun x hx => ?_, List.all_eq_true.1 h4, List.all_eq_true.1 h5⟩
 unfold okI at h3
 have := List.all_eq_true.1 h3 x hx
 simpa using this
theorem eqS_ok {a b : List Int} (ha : okB a = true) (hb : okB b = true) : eqS a b = decide (a = b) := by
 unfold eqS
 by_cases h : a = b
 ·subst h; simp
 ·rw [decide_eq_false h, beq_eq_false_iff_ne]
  exact fun he => h (bytesOf_inj ha hb he)
theorem okE_all {k f n : Int} {l : List TxD} (h : okE k f n l = true) : isI64 k ∧ isI64 f ∧ isI64 n ∧ ∀ t ∈ l, okT t = true := by
 unfold okE at h
 simp only [Bool.and_eq_true, decide_eq_true_eq] at h
 exact ⟨h.1, h.2.1, h.2.2.1, List.all_eq_true.1 h.2.2.2⟩
theorem mayE_parts {k f n : Int} {l : List TxD} (h : mayE k f n l = true) : (k = 0 ∧ f = 0 ∧ n = 0 ∧ l = []) ∨ (k = 1 ∧ l.length ≤ 16 ∧ ∀ t ∈ l, mayT t = true) := by
 unfold mayE at h
 split at h
 ·next h0 =>
  unfold eqEn at h
  simp only [Bool.and_eq_true, beq_iff_eq] at h
  refine .inl ⟨h0, h.2.1, h.2.2.1, ?_⟩
  cases l with
  | nil => rfl
  | cons a l => exact absurd h.2.2.2 (by simp [eqTs])
 ·unfold inB at h
  simp only [Bool.and_eq_true, beq_iff_eq, List.all_cons, List.all_nil, decide_eq_true_eq, and_true] at h
  exact .inr ⟨h.1, by omega, List.all_eq_true.1 h.2.2.2.2⟩
theorem bound_T (l : List TxD) : ∃ M, ∀ t ∈ l, mT t ≤ M := by
 induction l with
 | nil => exact ⟨0, fun t h => by cases h⟩
 | cons a l ih =>
  obtain ⟨M, hM⟩ := ih
  refine ⟨mT a + M, fun t h => ?_⟩
  rcases List.mem_cons.1 h with rfl | h
  ·omega
  ·have := hM t h; omega
theorem okB_app (a b : List Int) : okB (a ++ b) = (okB a && okB b) := by unfold okB; exact List.all_append
theorem okB_flat {α : Type} {f : α → List Int} : ∀ {l : List α}, (∀ x ∈ l, okB (f x) = true) → okB (l.flatMap f) = true
 | [], _ => rfl
 | a :: l, h => by
  rw [List.flatMap_cons, okB_app, h a List.mem_cons_self, okB_flat (fun x hx => h x (List.mem_cons_of_mem _ hx))]
  rfl
theorem nat_i64 (n : Nat) (h : n ≤ 9223372036854775807) : isI64 (n : Int) := by unfold isI64; omega
theorem keysB_ok {l : List KeyD} (h : ∀ x ∈ l, okK x = true) (hl : l.length ≤ 9223372036854775807) : okB (keysB l) = true := by
 unfold keysB
 rw [okB_app, numB_ok (nat_i64 _ hl), okB_flat (f := keyB) (fun x hx => numsB_ok (okK_i x (h x hx)))]
 rfl
theorem txB_ok {t : TxD} (h : okT t = true) (hl : TxLs t) : okB (txB t) = true := by
 obtain ⟨h0, h1, h2, h3, h4, h5⟩ := okT_all h
 obtain ⟨l2, l3, l4, l5⟩ := hl
 have e3 : okI t.f3 = true := List.all_eq_true.2 (fun x hx => by simpa using h3 x hx)
 have e0 : okI [t.f0, t.f1] = true := by simp [okI, h0, h1]
 unfold txB
 rw [okB_app, okB_app, okB_app, okB_app, okB_app, okB_app, numsB_ok e0, numB_ok (nat_i64 _ (by omega)), h2, numB_ok (nat_i64 _ (by omega)), numsB_ok e3, keysB_ok h4 (by omega), keysB_ok h5 (by omega)]
 rfl
theorem entB_ok {k f n : Int} {l : List TxD} (h : okE k f n l = true) (hl : l.length ≤ 9223372036854775807) (ht : ∀ t ∈ l, TxLs t) : okB (entB k f n l) = true := by
 obtain ⟨a0, a1, a2, a3⟩ := okE_all h
 unfold entB
 split
 ·exact numB_ok (by unfold isI64; omega)
 ·rw [okB_app, okB_app, okB_app, numB_ok a0, numsB_ok (by simp [okI, a1, a2]), numB_ok (nat_i64 _ (by omega)), okB_flat (fun t h => txB_ok (a3 t h) (ht t h))]
  rfl
end Go.Proofs.YtgiefblcckikeaaGreat.M
end

section
/- The arguments of law04's statements, opened. -/
namespace Go.Proofs.YtgiefblcckikeaaGreat.M
open Go.RowKit Go.Proofs.YtgiefblcckikeaaGreatW.PrintWords Go.Proofs.YtgiefblcckikeaaGreatW.PrintLast Go.Proofs.YtgiefblcckikeaaGreatW.PrintMore Go.Proofs.YtgiefblcckikeaaGreat.G
abbrev I64 (x : Int) : Prop := (Lit.int .i64 x).wf = true
abbrev I32 (x : Int) : Prop := (Lit.int .i32 x).wf = true
abbrev U8 (x : Int) : Prop := (Lit.int .u8 x).wf = true
abbrev LenP {α : Type} (ok : α → Prop) (l : List α) : Prop := l.length ≤ 9223372036854775807 ∧ ∀ x ∈ l, ok x
def okKd (k : KeyD) : Prop := I32 k.f0 ∧ I64 k.f1
def okTd (t : TxD) : Prop := I64 t.f0 ∧ I64 t.f1 ∧ LenP U8 t.f2 ∧ LenP I64 t.f3 ∧ LenP okKd t.f4 ∧ LenP okKd t.f5
def okEd (e : S29) : Prop := I64 e.f0 ∧ I64 e.f1 ∧ I64 e.f2 ∧ LenP okTd e.f3
theorem i64_of {x : Int} (h : I64 x) : isI64 x := by
 have this : (Lit.int .i64 x).wf = true := h
 simp only [Lit.wf, Bool.and_eq_true, decide_eq_true_eq] at this
 have e1 : IntKind.i64.min = -9223372036854775808 := rfl
 have e2 : IntKind.i64.max = 9223372036854775807 := rfl
 unfold isI64
 omega
theorem i32_of {x : Int} (h : I32 x) : -2147483648 ≤ x ∧ x ≤ 2147483647 := by
 have this : (Lit.int .i32 x).wf = true := h
 simp only [Lit.wf, Bool.and_eq_true, decide_eq_true_eq] at this
 have e1 : IntKind.i32.min = -2147483648 := rfl
 have e2 : IntKind.i32.max = 2147483647 := rfl
 omega
abbrev szN (l : List Int) : Nat := szL (fun _ : Int => 1) l
abbrev szK (k : KeyD) : Nat := 1 + 1 + 1
abbrev szT (t : TxD) : Nat := 1 + (1 + (szN t.f2 + (szN t.f3 + (szL szK t.f4 + szL szK t.f5)))) + 1
abbrev szE (e : S29) : Nat := 1 + (1 + (1 + szL szT e.f3)) + 1
theorem opens_i64 : Opens Tryz.prog 3 (Kd.int .i64) I64 (fun _ => 1) := opens_int Tryz.underlying3 (by kernel_rfl)
theorem opens_j64 : Opens Tryz.prog 2 (Kd.int .i64) I64 (fun _ => 1) := opens_int Tryz.underlying2 (by kernel_rfl)
theorem opens_i32 : Opens Tryz.prog 21 (Kd.int .i32) I32 (fun _ => 1) := opens_int Tryz.underlying21 (by kernel_rfl)
theorem opens_u8 : Opens Tryz.prog 5 (Kd.int .u8) U8 (fun _ => 1) := opens_int Tryz.underlying5 (by kernel_rfl)
theorem opens_bytes : Opens Tryz.prog 23 (Kd.slice 5 (Kd.int .u8)) (LenP U8) szN := opens_slice Tryz.underlying23 (by kernel_rfl) opens_u8
theorem opens_nums : Opens Tryz.prog 24 (Kd.slice 2 (Kd.int .i64)) (LenP I64) szN := opens_slice Tryz.underlying24 (by kernel_rfl) opens_j64
theorem opens_key : Opens Tryz.prog 101 G.k101 okKd szK := opens_struct (d := Kd.pair (Kd.int .i32) (Kd.int .i64)) (fun x : KeyD => (x.f0, x.f1)) (fun x => ⟨x.1, x.2⟩) (fun _ => rfl) Tryz.underlying101 (by kernel_rfl) (opensL_cons rfl opens_i32 (opensL_one rfl opens_j64))
theorem opens_keys : Opens Tryz.prog 22 (Kd.slice 101 G.k101) (LenP okKd) (szL szK) := opens_slice Tryz.underlying22 (by kernel_rfl) opens_key
theorem opens_txn : Opens Tryz.prog 26 G.k26 okTd szT := opens_struct (fun x : TxD => (x.f0, x.f1, x.f2, x.f3, x.f4, x.f5)) (fun x => ⟨x.1, x.2.1, x.2.2.1, x.2.2.2.1, x.2.2.2.2.1, x.2.2.2.2.2⟩) (fun _ => rfl) Tryz.underlying26 (by kernel_rfl)
 (opensL_cons rfl opens_j64 (opensL_cons rfl opens_j64 (opensL_cons rfl opens_bytes (opensL_cons rfl opens_nums (opensL_cons rfl opens_keys (opensL_one rfl opens_keys))))))
theorem opens_txns : Opens Tryz.prog 27 (Kd.slice 26 G.k26) (LenP okTd) (szL szT) := opens_slice Tryz.underlying27 (by kernel_rfl) opens_txn
theorem opens_ent : Opens Tryz.prog 29 G.k29 okEd szE := opens_struct (fun x : S29 => (x.f0, x.f1, x.f2, x.f3)) (fun x => ⟨x.1, x.2.1, x.2.2.1, x.2.2.2⟩) (fun _ => rfl) Tryz.underlying29 (by kernel_rfl)
 (opensL_cons rfl opens_i64 (opensL_cons rfl opens_i64 (opensL_cons rfl opens_j64 (opensL_one rfl opens_txns))))
theorem okT_of {t : TxD} (h : okTd t) : okT t = true ∧ TxLs t := by
 obtain ⟨h0, h1, h2, h3, h4, h5⟩ := h
 have k4 : ∀ x : KeyD, okKd x → okK x = true := fun x hx => by
  obtain ⟨a, b⟩ := hx
  have a := i32_of a
  unfold okK
  exact decide_eq_true ⟨a.1, a.2, i64_of b⟩
 have i0 : isI64 t.f0 := i64_of h0
 have i1 : isI64 t.f1 := i64_of h1
 refine ⟨?_, h2.1, h3.1, h4.1, h5.1⟩
 unfold okT
 rw [decide_eq_true i0, decide_eq_true i1, okI_of_wf h3.2, List.all_eq_true.2 (fun x hx => k4 x (h4.2 x hx)), List.all_eq_true.2 (fun x hx => k4 x (h5.2 x hx))]
 rw [okB_of_wf h2.2]
 rfl
theorem okE_of {e : S29} (h : okEd e) : okE e.f0 e.f1 e.f2 e.f3 = true ∧ e.f3.length ≤ 9223372036854775807 ∧ ∀ t ∈ e.f3, TxLs t := by
 obtain ⟨h0, h1, h2, h3⟩ := h
 have i0 : isI64 e.f0 := i64_of h0
 have i1 : isI64 e.f1 := i64_of h1
 have i2 : isI64 e.f2 := i64_of h2
 refine ⟨?_, h3.1, fun t ht => (okT_of (h3.2 t ht)).2⟩
 unfold okE
 rw [decide_eq_true i0, decide_eq_true i1, decide_eq_true i2, List.all_eq_true.2 (fun t ht => (okT_of (h3.2 t ht)).1)]
 rfl
end Go.Proofs.YtgiefblcckikeaaGreat.M
end

section
/- Messages as Lean data. -/
namespace Go.Proofs.YtgiefblcckikeaaGreat.M
open Go.RowKit Go.Proofs.YtgiefblcckikeaaGreatW.PrintWords Go.Proofs.YtgiefblcckikeaaGreatW.PrintLast Go.Proofs.YtgiefblcckikeaaGreatW.PrintMore Go.Proofs.YtgiefblcckikeaaGreat.G
abbrev EntD := G.S29
abbrev TrD := G.S63
structure PartD where
 f0 : Int
 f1 : Int
 f2 : Int
 f3 : List Int
structure MsgD where
 f0 : Int
 f1 : Int
 f2 : Int
 f3 : Int
 f4 : Int
 f5 : Int
 f6 : Int
 f7 : Bool
 f8 : List TrD
 f9 : EntD
 f10 : PartD
def eqTr (a b : TrD) : Bool := a.f0 == b.f0 && eqEn a.f1.f0 a.f1.f1 a.f1.f2 a.f1.f3 b.f1.f0 b.f1.f1 b.f1.f2 b.f1.f3
def eqTrs : List TrD → List TrD → Bool
 | [], [] => true
 | a :: l, b :: m => eqTr a b && eqTrs l m
 | _, _ => false
theorem eqTrs_len : ∀ {a b : List TrD}, a.length ≠ b.length → eqTrs a b = false
 | [], [], h => absurd rfl h
 | [], _ :: _, _ => rfl
 | _ :: _, [], _ => rfl
 | _ :: _, _ :: _, h => by
  unfold eqTrs
  rw [eqTrs_len (by simpa using h), Bool.and_false]
theorem eqTrs_take {a b : List TrD} {i : Nat} {x y : TrD} (hx : a[i]? = some x) (hy : b[i]? = some y) : eqTrs (a.drop i) (b.drop i) = (eqTr x y && eqTrs (a.drop (i + 1)) (b.drop (i + 1))) := by
 rw [drop_cons hx, drop_cons hy]; rfl
def eqPt (a b : PartD) : Bool := a.f0 == b.f0 && (a.f1 == b.f1 && (a.f2 == b.f2 && eqS a.f3 b.f3))
def eqMs (m n : MsgD) : Bool := m.f0 == n.f0 && (m.f1 == n.f1 && (m.f2 == n.f2 && (m.f3 == n.f3 && (m.f4 == n.f4 && (m.f5 == n.f5 && (m.f6 == n.f6 && (m.f7 == n.f7 && (eqTrs m.f8 n.f8 && (eqEn m.f9.f0 m.f9.f1 m.f9.f2 m.f9.f3 n.f9.f0 n.f9.f1 n.f9.f2 n.f9.f3 && eqPt m.f10 n.f10)))))))))
abbrev msgCells (m : MsgD) (A8 : Option Addr) (c8 : Nat) (A12 : Option Addr) (c12 : Nat) (A16 : Option Addr) (c16 : Nat) : Array Value := #[.int .i64 m.f0, .int .i64 m.f1, .int .i64 m.f2, .int .i64 m.f3, .int .i64 m.f4, .int .i64 m.f5, .int .i64 m.f6, .bool m.f7, .slice A8 m.f8.length c8, .int .i64 m.f9.f0, .int .i64 m.f9.f1, .int .i64 m.f9.f2, .slice A12 m.f9.f3.length c12, .int .i64 m.f10.f0, .int .i64 m.f10.f1, .int .i64 m.f10.f2, .slice A16 m.f10.f3.length c16]
structure MsgC (w : World) (m : MsgD) (A8 : Option Addr) (c8 : Nat) (A12 : Option Addr) (c12 : Nat) (A16 : Option Addr) (c16 : Nat) : Prop where
 l8 : m.f8.length ≤ c8
 g8 : G.k63.C w A8 m.f8.length m.f8
 l12 : m.f9.f3.length ≤ c12
 g12 : G.k26.C w A12 m.f9.f3.length m.f9.f3
 l16 : m.f10.f3.length ≤ c16
 g16 : (Kd.int .u8).C w A16 m.f10.f3.length m.f10.f3
section
variable {w w' : World} {m : MsgD} {A8 A12 A16 : Option Addr} {c8 c12 c16 : Nat}
theorem MsgC.below (h : MsgC w m A8 c8 A12 c12 A16 c16) (hb : Below w.heap.size w w') : MsgC w' m A8 c8 A12 c12 A16 c16 :=
 ⟨h.l8, Kd.C_below h.g8 hb, h.l12, Kd.C_below h.g12 hb, h.l16, Kd.C_below h.g16 hb⟩
end
def MsBox (W : World) (b : Nat) (m : MsgD) (A8 : Option Addr) (c8 : Nat) (A12 : Option Addr) (c12 : Nat) (A16 : Option Addr) (c16 : Nat) : Prop := W.heap[b]? = some (.cells (msgCells m A8 c8 A12 c12 A16 c16) 34)
def kP : Kd PartD := Kd.iso (Kd.pair (Kd.int .i64) (Kd.pair (Kd.int .i64) (Kd.pair (Kd.int .i64) (Kd.slice 5 (Kd.int .u8))))) (fun x : PartD => (x.f0, x.f1, x.f2, x.f3))
def kM : Kd MsgD := Kd.iso (Kd.pair (Kd.int .i64) (Kd.pair (Kd.int .i64) (Kd.pair (Kd.int .i64) (Kd.pair (Kd.int .i64) (Kd.pair (Kd.int .i64) (Kd.pair (Kd.int .i64) (Kd.pair (Kd.int .i64) (Kd.pair Kd.bool (Kd.pair (Kd.slice 63 G.k63) (Kd.pair G.k29 kP)))))))))) (fun x : MsgD => (x.f0, x.f1, x.f2, x.f3, x.f4, x.f5, x.f6, x.f7, x.f8, x.f9, x.f10))
theorem kM_open {w : World} {m : MsgD} {cs : List Value} (h : kM.K w m cs) : ∃ A8 c8 A12 c12 A16 c16, cs = (msgCells m A8 c8 A12 c12 A16 c16).toList ∧ MsgC w m A8 c8 A12 c12 A16 c16 := by
 obtain ⟨_, _, rfl, rfl, ⟨_, _, rfl, rfl, ⟨_, _, rfl, rfl, ⟨_, _, rfl, rfl, ⟨_, _, rfl, rfl, ⟨_, _, rfl, rfl, ⟨_, _, rfl, rfl, ⟨_, _, rfl, rfl, ⟨_, _, rfl, ⟨A8, c8, rfl, l8, g8⟩, ⟨_, _, rfl, s9, s10⟩⟩⟩⟩⟩⟩⟩⟩⟩⟩ := h
 obtain ⟨A12, c12, rfl, l12, g12⟩ := G.k29_open s9
 obtain ⟨_, _, rfl, rfl, ⟨_, _, rfl, rfl, ⟨_, _, rfl, rfl, ⟨A16, c16, rfl, l16, g16⟩⟩⟩⟩ := s10
 exact ⟨A8, c8, A12, c12, A16, c16, rfl, l8, g8, l12, g12, l16, g16⟩
def okTrd (x : TrD) : Prop := I64 x.f0 ∧ okEd x.f1
def okPd (p : PartD) : Prop := I64 p.f0 ∧ I64 p.f1 ∧ I64 p.f2 ∧ LenP U8 p.f3
def okMd (m : MsgD) : Prop := I64 m.f0 ∧ I64 m.f1 ∧ I64 m.f2 ∧ I64 m.f3 ∧ I64 m.f4 ∧ I64 m.f5 ∧ I64 m.f6 ∧ True ∧ LenP okTrd m.f8 ∧ okEd m.f9 ∧ okPd m.f10
theorem opens_bo : Opens Tryz.prog 4 Kd.bool (fun _ => True) (fun _ => 1) := opens_bool Tryz.underlying4 (by kernel_rfl)
theorem opens_tr : Opens Tryz.prog 63 G.k63 okTrd (fun x => 1 + szE x.f1 + 1) := opens_struct (d := Kd.pair (Kd.int .i64) G.k29) (fun x : TrD => (x.f0, x.f1)) (fun x => ⟨x.1, x.2⟩) (fun _ => rfl) Tryz.underlying63 (by kernel_rfl) (opensL_cons rfl opens_j64 (opensL_one rfl opens_ent))
theorem opens_trs : Opens Tryz.prog 30 (Kd.slice 63 G.k63) (LenP okTrd) (szL (fun x => 1 + szE x.f1 + 1)) := opens_slice Tryz.underlying30 (by kernel_rfl) opens_tr
def szP (p : PartD) : Nat := 1 + (1 + (1 + szN p.f3)) + 1
theorem opens_part : Opens Tryz.prog 32 kP okPd szP := opens_struct (fun x : PartD => (x.f0, x.f1, x.f2, x.f3)) (fun x => ⟨x.1, x.2.1, x.2.2.1, x.2.2.2⟩) (fun _ => rfl) Tryz.underlying32 (by kernel_rfl) (opensL_cons rfl opens_j64 (opensL_cons rfl opens_i64 (opensL_cons rfl opens_i64 (opensL_one rfl opens_bytes))))
def szM (m : MsgD) : Nat := 1 + (1 + (1 + (1 + (1 + (1 + (1 + (1 + (szL (fun x => 1 + szE x.f1 + 1) m.f8 + (szE m.f9 + szP m.f10))))))))) + 1
theorem opens_msg : Opens Tryz.prog 34 kM okMd szM := opens_struct (fun x : MsgD => (x.f0, x.f1, x.f2, x.f3, x.f4, x.f5, x.f6, x.f7, x.f8, x.f9, x.f10)) (fun x => ⟨x.1, x.2.1, x.2.2.1, x.2.2.2.1, x.2.2.2.2.1, x.2.2.2.2.2.1, x.2.2.2.2.2.2.1, x.2.2.2.2.2.2.2.1, x.2.2.2.2.2.2.2.2.1, x.2.2.2.2.2.2.2.2.2.1, x.2.2.2.2.2.2.2.2.2.2⟩) (fun _ => rfl) Tryz.underlying34 (by kernel_rfl)
 (opensL_cons rfl opens_i64 (opensL_cons rfl opens_i64 (opensL_cons rfl opens_i64 (opensL_cons rfl opens_j64 (opensL_cons rfl opens_j64 (opensL_cons rfl opens_j64 (opensL_cons rfl opens_j64 (opensL_cons rfl opens_bo (opensL_cons rfl opens_trs (opensL_cons rfl opens_ent (opensL_one rfl opens_part)))))))))))
end Go.Proofs.YtgiefblcckikeaaGreat.M
end

section
/- A function that reads with a state at x into a struct variable g, its result's box being the first new one; what it has read stays. -/
namespace Go.Proofs.YtgiefblcckikeaaGreat.M
open Go.RowKit Go.Proofs.YtgiefblcckikeaaGreatW.PrintWords Go.Proofs.YtgiefblcckikeaaGreatW.PrintLast Go.Proofs.YtgiefblcckikeaaGreatW.PrintMore Go.Proofs.YtgiefblcckikeaaGreat.G
def Held (S : Nat → Prop) (W : World) (P : World → Prop) : Prop := ∀ W' : World, W.heap.size ≤ W'.heap.size → (∀ k, k < W.heap.size → ¬ S k → W'.heap[k]? = W.heap[k]?) → P W'
theorem Held.now {S : Nat → Prop} {W : World} {P : World → Prop} (h : Held S W P) : P W := h W (Nat.le_refl _) (fun _ _ _ => rfl)
theorem Held.step {S : Nat → Prop} {W W' : World} {P : World → Prop} (h : Held S W P) (hz : W.heap.size ≤ W'.heap.size) (hm : ∀ k, k < W.heap.size → ¬ S k → W'.heap[k]? = W.heap[k]?) : Held S W' P :=
 fun V hV hk => h V (Nat.le_trans hz hV) (fun k h1 h2 => (hk k (Nat.lt_of_lt_of_le h1 hz) h2).trans (hm k h1 h2))
theorem Held.keep {S S' : Nat → Prop} {W W' : World} {P : World → Prop} (h : Held S W P) (k : KeepS S' W W') (hs : ∀ i, S' i → S i) : Held S W' P := h.step k.size (fun i h1 h2 => k.block i h1 (fun e => h2 (hs i e)))
theorem Held.set {S : Nat → Prop} {W : World} {P : World → Prop} (h : Held S W P) (p : Addr) (hp : S p.block) (v : Value) : Held S (W.setCell p v) P :=
 h.step (by rw [World.size_setCell]; exact Nat.le_refl _) (fun k _ h2 => Below.heap_setCell W p v k (fun e => h2 (e ▸ hp)))
theorem Held.and {S : Nat → Prop} {W : World} {P Q : World → Prop} (h : Held S W P) (k : Held S W Q) : Held S W (fun V => P V ∧ Q V) := fun V h1 h2 => ⟨h V h1 h2, k V h1 h2⟩
theorem Held.true (S : Nat → Prop) (W : World) : Held S W (fun _ => True) := fun _ _ _ => trivial
abbrev Iv {α : Type} (d : Kd α) (e : Nat) (w : World) (lo hi : Nat) (v : Value) (l : List α) (W : World) : Prop := Kd.R d e W w.heap.size (fun k => lo ≤ k ∧ k < hi) v l
theorem Iv.of {α : Type} {d : Kd α} {e : Nat} {w W : World} {base : Nat} {ok : Nat → Prop} {v : Value} {l : List α} (h : Kd.R d e W base ok v l) (hb : w.heap.size ≤ base) : Iv d e w base W.heap.size v l W :=
 Kd.R_mono (Kd.R_lower (Kd.R_bound h) hb) (fun k hk => ⟨hk.2.1, hk.2.2.1⟩)
theorem Iv.held {α : Type} {d : Kd α} {e : Nat} {w W : World} {lo hi : Nat} {v : Value} {l : List α} {S : Nat → Prop} (h : Iv d e w lo hi v l W) (hS : ∀ k, S k → k < lo ∨ hi ≤ k) : Held S W (Iv d e w lo hi v l) :=
 fun V _ hk => Kd.R_step h (fun k h1 h2 => hk k h2 (fun e => by have := hS k e; omega))
abbrev Sv {α : Type} (d : Kd α) (e : Nat) (w : World) (lo hi : Nat) (v : Value) (l : List α) (W : World) : Prop := Kd.S d e W w.heap.size (fun k => lo ≤ k ∧ k < hi) v l
theorem Sv.of {α : Type} {d : Kd α} {e : Nat} {w W : World} {base : Nat} {ok : Nat → Prop} {v : Value} {l : List α} (h : Kd.S d e W base ok v l) (hb : w.heap.size ≤ base) : Sv d e w base W.heap.size v l W :=
 Kd.S_mono (Kd.S_lower (Kd.S_bound h) hb) (fun k hk => ⟨hk.2.1, hk.2.2.1⟩)
theorem Sv.held {α : Type} {d : Kd α} {e : Nat} {w W : World} {lo hi : Nat} {v : Value} {l : List α} {S : Nat → Prop} (h : Sv d e w lo hi v l W) (hS : ∀ k, S k → k < lo ∨ hi ≤ k) : Held S W (Sv d e w lo hi v l) :=
 fun V _ hk => Kd.S_step h (fun k h1 h2 => hk k h2 (fun e => by have := hS k e; omega))
structure Fr (I : World → EyeS → Prop) (w0 w : World) (x g T : Nat) (zs cs : Array Value) (s : EyeS) (P : World → Prop) (W : World) : Prop where
 g0 : W.heap[w.heap.size]? = some (.cells zs T)
 y : W.heap[g]? = some (.cells cs T)
 i : I W s
 d : Below w0.heap.size w0 W
 q : KeepS (fun i => i = x) w W
 hg : w.heap.size < g
 hz : g < W.heap.size
 hx : x < w.heap.size
 hw : w0.heap.size ≤ x
 h : Held (fun k => k = x ∨ k = w.heap.size ∨ k = g) W P
 at_ : ∀ (W W' : World) (s : EyeS), W'.heap[x]? = W.heap[x]? → I W s → I W' s
section
variable {I : World → EyeS → Prop} {w0 w W W' : World} {x g T : Nat} {zs cs : Array Value} {s s' : EyeS} {P Q : World → Prop}
theorem Fr.lt (h : Fr I w0 w x g T zs cs s P W) : w.heap.size < W.heap.size := Nat.lt_trans h.hg h.hz
theorem Fr.hxg (h : Fr I w0 w x g T zs cs s P W) : x < g := Nat.lt_trans h.hx h.hg
theorem Fr.call (h : Fr I w0 w x g T zs cs s P W) (i : I W' s') (d : Below w0.heap.size w0 W') (k : KeepS (fun i => i = x) W W') : Fr I w0 w x g T zs cs s' P W' :=
 ⟨(k.block _ h.lt (by have := h.hx; omega)).trans h.g0, (k.block _ h.hz (by have := h.hxg; omega)).trans h.y, i, d, h.q.trans k, h.hg, Nat.lt_of_lt_of_le h.hz k.size, h.hx, h.hw, h.h.keep k (fun _ e => .inl e), h.at_⟩
theorem Fr.and (h : Fr I w0 w x g T zs cs s P W) (k : Held (fun k => k = x ∨ k = w.heap.size ∨ k = g) W Q) : Fr I w0 w x g T zs cs s (fun V => P V ∧ Q V) W := ⟨h.g0, h.y, h.i, h.d, h.q, h.hg, h.hz, h.hx, h.hw, h.h.and k, h.at_⟩
theorem Fr.callR {α : Type} {d : Kd α} {e : Nat} {ok : Nat → Prop} {v : Value} {l : List α} (h : Fr I w0 w x g T zs cs s P W) (i : I W' s') (b : Below w0.heap.size w0 W') (k : KeepS (fun i => i = x) W W') (hv : Kd.R d e W' W.heap.size ok v l) :
  Fr I w0 w x g T zs cs s' (fun V => P V ∧ Iv d e w W.heap.size W'.heap.size v l V) W' :=
 (h.call i b k).and ((Iv.of hv (Nat.le_of_lt h.lt)).held (fun k hk => by have h1 := h.hx; have h2 := h.hg; have h3 := h.hz; rcases hk with rfl | rfl | rfl <;> omega))
theorem Fr.callS {α : Type} {d : Kd α} {e : Nat} {ok : Nat → Prop} {v : Value} {l : List α} (h : Fr I w0 w x g T zs cs s P W) (i : I W' s') (b : Below w0.heap.size w0 W') (k : KeepS (fun i => i = x) W W') (hv : Kd.S d e W' W.heap.size ok v l) :
  Fr I w0 w x g T zs cs s' (fun V => P V ∧ Sv d e w W.heap.size W'.heap.size v l V) W' :=
 (h.call i b k).and ((Sv.of hv (Nat.le_of_lt h.lt)).held (fun k hk => by have h1 := h.hx; have h2 := h.hg; have h3 := h.hz; rcases hk with rfl | rfl | rfl <;> omega))
theorem Fr.set (h : Fr I w0 w x g T zs cs s P W) (j : Nat) (v : Value) (cs' : Array Value) (hy : (W.setCell ⟨g, j, none⟩ v).heap[g]? = some (.cells cs' T)) : Fr I w0 w x g T zs cs' s P (W.setCell ⟨g, j, none⟩ v) := by
 have h1 := h.hg; have h2 := h.hx; have h3 := h.hw
 exact ⟨(Below.heap_setCell W ⟨g, j, none⟩ v w.heap.size (by show w.heap.size ≠ g; omega)).trans h.g0, hy, h.at_ _ _ _ (Below.heap_setCell W ⟨g, j, none⟩ v x (by show x ≠ g; omega)) h.i, h.d.setCell (p := ⟨g, j, none⟩) (by show w0.heap.size ≤ g; omega) v, h.q.set (p := ⟨g, j, none⟩) (.inr (by show w.heap.size ≤ g; omega)) v, h1, by rw [World.size_setCell]; exact h.hz, h2, h3, h.h.set ⟨g, j, none⟩ (.inr (.inr rfl)) v, h.at_⟩
theorem Fr.put (h : Fr I w0 w x g T zs cs s P W) (j : Nat) (v : Value) : Fr I w0 w x g T zs (cs.setIfInBounds j v) s P (W.setCell ⟨g, j, none⟩ v) := h.set j v _ (blk_put h.y j v rfl)
theorem Fr.drew (h : Fr I w0 w x g T zs cs s P W) : Fr I w0 w x g T zs cs s P W.drew := ⟨h.g0, h.y, h.at_ W W.drew s rfl h.i, h.d.drew, h.q.drew, h.hg, h.hz, h.hx, h.hw, h.h.step (Nat.le_refl _) (fun _ _ _ => rfl), h.at_⟩
theorem Fr.done (h : Fr I w0 w x g T zs cs s P W) (hk : KeepS (fun k => k = w.heap.size ∨ k = g) W W') : P W' ∧ I W' s ∧ Below w0.heap.size w0 W' ∧ KeepS (fun i => i = x) w W' := by
 have h1 := h.hg; have h2 := h.hx; have h3 := h.hw; have h4 := h.hz
 refine ⟨(h.h.keep hk (fun i e => by rcases e with e | e; exact .inr (.inl e); exact .inr (.inr e))).now, h.at_ _ _ _ (hk.block x (by omega) (by omega)) h.i, h.d.trans (hk.below (B := w0.heap.size) h.d.size (fun i e => by omega)), h.q.then_base (hk.below (B := w.heap.size) h.q.size (fun i e => by omega))⟩
theorem Iv.apart {α β : Type} {d : Kd α} {d' : Kd β} {e e' : Nat} {w W : World} {lo hi lo' hi' : Nat} {v v' : Value} {l : List α} {l' : List β} (h : Iv d e w lo hi v l W) (h' : Iv d' e' w lo' hi' v' l' W) (hh : hi ≤ lo' ∨ hi' ≤ lo) : Kd.R d e W w.heap.size (fun k => some k ≠ v'.ownBlock) v l :=
 Kd.R_mono h (fun k hk e => by have := h'.1 k e.symm; omega)
theorem Fr.grow {W1 : World} (h : Fr I w0 w x g T zs cs s P W) (h1 : Held (fun k => k = x ∨ k = w.heap.size ∨ k = g) W1 P) (hk : KeepS (fun k => k = x ∨ k = g) W1 W) (hg : g < W1.heap.size) (hb : Below W1.heap.size W W') : Fr I w0 w x g T zs cs s P W' := by
 have h2 := h.hg; have h3 := h.hx; have h4 := h.hw
 refine ⟨(hb.block _ (by omega)).trans h.g0, (hb.block _ hg).trans h.y, h.at_ _ _ _ (hb.block x (by omega)) h.i, h.d.trans (hb.mono (by omega)), h.q.then_base (hb.mono (by omega)), h2, Nat.lt_of_lt_of_le h.hz hb.size, h3, h4, ?_, h.at_⟩
 exact h1.step (Nat.le_trans hk.size hb.size) (fun k h5 h6 => (hb.block k h5).trans (hk.block k h5 (fun e => h6 (by rcases e with e | e; exact .inl e; exact .inr (.inr e)))))
end
end Go.Proofs.YtgiefblcckikeaaGreat.M
end

section
/- A function that turns its parameter's box g and answers it out of the result's box r; what it has made stays. -/
namespace Go.Proofs.YtgiefblcckikeaaGreat.M
open Go.RowKit Go.Proofs.YtgiefblcckikeaaGreatW.PrintWords Go.Proofs.YtgiefblcckikeaaGreatW.PrintLast Go.Proofs.YtgiefblcckikeaaGreatW.PrintMore Go.Proofs.YtgiefblcckikeaaGreat.G
structure Bx (w : World) (g r T : Nat) (zs cs : Array Value) (P : World → Prop) (W : World) : Prop where
 g0 : W.heap[r]? = some (.cells zs T)
 y : W.heap[g]? = some (.cells cs T)
 d : Below w.heap.size w W
 hr : w.heap.size ≤ r
 hg : w.heap.size ≤ g
 ne : r ≠ g
 hz : g < W.heap.size
 hz2 : r < W.heap.size
 h : Held (fun k => k = r ∨ k = g) W P
section
variable {w W W' : World} {g r T : Nat} {zs cs : Array Value} {P Q : World → Prop}
theorem Bx.below (h : Bx w g r T zs cs P W) (hb : Below W.heap.size W W') : Bx w g r T zs cs P W' :=
 ⟨(hb.block r h.hz2).trans h.g0, (hb.block g h.hz).trans h.y, h.d.trans (hb.mono h.d.size), h.hr, h.hg, h.ne, Nat.lt_of_lt_of_le h.hz hb.size, Nat.lt_of_lt_of_le h.hz2 hb.size, h.h.step hb.size (fun k h1 _ => hb.block k h1)⟩
theorem Bx.drew (h : Bx w g r T zs cs P W) : Bx w g r T zs cs P W.drew := ⟨h.g0, h.y, h.d.drew, h.hr, h.hg, h.ne, h.hz, h.hz2, h.h.step (Nat.le_refl _) (fun _ _ _ => rfl)⟩
theorem Bx.and (h : Bx w g r T zs cs P W) (k : Held (fun k => k = r ∨ k = g) W Q) : Bx w g r T zs cs (fun V => P V ∧ Q V) W := ⟨h.g0, h.y, h.d, h.hr, h.hg, h.ne, h.hz, h.hz2, h.h.and k⟩
theorem Bx.lt (h : Bx w g r T zs cs P W) : w.heap.size ≤ W.heap.size := h.d.size
theorem Bx.callR {α : Type} {d : Kd α} {e : Nat} {ok : Nat → Prop} {v : Value} {l : List α} (h : Bx w g r T zs cs P W) (b : Below W.heap.size W W') (hv : Kd.R d e W' W.heap.size ok v l) :
  Bx w g r T zs cs (fun V => P V ∧ Iv d e w W.heap.size W'.heap.size v l V) W' :=
 (h.below b).and ((Iv.of hv h.lt).held (fun k hk => by have h1 := h.hz; have h2 := h.hz2; rcases hk with rfl | rfl <;> omega))
theorem Bx.callS {α : Type} {d : Kd α} {e : Nat} {ok : Nat → Prop} {v : Value} {l : List α} (h : Bx w g r T zs cs P W) (b : Below W.heap.size W W') (hv : Kd.S d e W' W.heap.size ok v l) :
  Bx w g r T zs cs (fun V => P V ∧ Sv d e w W.heap.size W'.heap.size v l V) W' :=
 (h.below b).and ((Sv.of hv h.lt).held (fun k hk => by have h1 := h.hz; have h2 := h.hz2; rcases hk with rfl | rfl <;> omega))
theorem Bx.set (h : Bx w g r T zs cs P W) (j : Nat) (v : Value) (cs' : Array Value) (hy : (W.setCell ⟨g, j, none⟩ v).heap[g]? = some (.cells cs' T)) : Bx w g r T zs cs' P (W.setCell ⟨g, j, none⟩ v) :=
 ⟨(Below.heap_setCell W ⟨g, j, none⟩ v r h.ne).trans h.g0, hy, h.d.setCell (p := ⟨g, j, none⟩) h.hg v, h.hr, h.hg, h.ne, by rw [World.size_setCell]; exact h.hz, by rw [World.size_setCell]; exact h.hz2, h.h.set ⟨g, j, none⟩ (.inr rfl) v⟩
theorem Bx.put (h : Bx w g r T zs cs P W) (j : Nat) (v : Value) : Bx w g r T zs (cs.setIfInBounds j v) P (W.setCell ⟨g, j, none⟩ v) := h.set j v _ (blk_put h.y j v rfl)
theorem Bx.done (h : Bx w g r T zs cs P W) (hk : KeepS (fun k => k = r ∨ k = g) W W') : P W' ∧ Below w.heap.size w W' := by
 have h1 := h.hg; have h2 := h.hr; have h3 := h.lt
 exact ⟨(h.h.keep hk (fun _ e => e)).now, h.d.trans (hk.below (B := w.heap.size) h3 (fun i e => by omega))⟩
end
theorem Bx.start (w : World) (T : Nat) (zs cs : Array Value) : Bx w w.heap.size (w.heap.size + 1) T zs cs (fun _ => True) ((w.alloc (.cells cs T)).alloc (.cells zs T)) := by
 have hz1 : (w.alloc (.cells cs T)).heap.size = w.heap.size + 1 := by simp
 have hz2 : ((w.alloc (.cells cs T)).alloc (.cells zs T)).heap.size = w.heap.size + 1 + 1 := by simp
 have hy := heap_alloc_new (w.alloc (.cells cs T)) (.cells zs T)
 rw [hz1] at hy
 exact ⟨hy, (((Below.refl _ (w.alloc (.cells cs T))).alloc (Nat.le_refl _) _).block w.heap.size (by omega)).trans (heap_alloc_new w _), ((Below.refl _ _).alloc (Nat.le_refl _) _).alloc (by simp) _, by omega, Nat.le_refl _, by omega, by omega, by omega, Held.true _ _⟩
end Go.Proofs.YtgiefblcckikeaaGreat.M
end

section
-- Written by a program of this session's (wip/gprint.py over the kit's printer).
namespace Go.Proofs.YtgiefblcckikeaaGreat.G
open Go.RowKit Go.Proofs.YtgiefblcckikeaaGreatW.PrintWords Go.Proofs.YtgiefblcckikeaaGreatW.PrintLast Go.Proofs.YtgiefblcckikeaaGreatW.PrintMore
attribute [local go_sem] max2_int min2_int max_two min_two max_three min_three max_four min_four   -- for this text's walks alone
def trivetref04_MayPart.f (a0_0 : Int) (a0_1 : Int) (a0_2 : Int) (l0_3 : List Int) : Option (Bool) := (trivetref04_count.f a0_0).bind fun t259 => (if t259 = true then (if a0_2 ≥ 1 then (if a0_2 ≤ 4096 then (if a0_1 ≥ 0 then (if a0_1 < a0_2 then (some (decide ((l0_3.length : Int) ≤ 16384))) else (some false)) else (some false)) else (some false)) else (some false)) else (some false))
set_option maxHeartbeats 8000000 in
set_option maxRecDepth 100000 in
theorem trivetref04_MayPart.calls (a0_0 : Int) (a0_1 : Int) (a0_2 : Int) (A0_3 : Option Addr) (c0_3 : Nat) (l0_3 : List Int) (r : Bool) (w : World) (hr0_3 : Kd.C (Kd.int .u8) w A0_3 l0_3.length l0_3) (hc0_3 : l0_3.length ≤ c0_3) (h : trivetref04_MayPart.f a0_0 a0_1 a0_2 l0_3 = some r) :
  Calls Tryz.prog 70 #[.agg #[.int .i64 a0_0, .int .i64 a0_1, .int .i64 a0_2, .slice A0_3 l0_3.length c0_3]] w fun e w' => e = .returned (.bool r) ∧ Below w.heap.size w w' := by
 have hu32 := Tryz.underlying32
 have HR0_3 := Aside0.mk hr0_3
 have HC0_3 := Aside0.mk hc0_3
 clear hr0_3 hc0_3
 have HB := Aside0.mk (Below.refl w.heap.size w)
 have H : ((trivetref04_count.f a0_0).bind fun t259 => (if t259 = true then (if a0_2 ≥ 1 then (if a0_2 ≤ 4096 then (if a0_1 ≥ 0 then (if a0_1 < a0_2 then (some (decide ((l0_3.length : Int) ≤ 16384))) else (some false)) else (some false)) else (some false)) else (some false)) else (some false))) = some r := h
 clear h
 replace H := Option.bind_eq_some_iff.mp H
 obtain ⟨t259, A20, H⟩ := H
 replace H : (if t259 = true then (if a0_2 ≥ 1 then (if a0_2 ≤ 4096 then (if a0_1 ≥ 0 then (if a0_1 < a0_2 then (some (decide ((l0_3.length : Int) ≤ 16384))) else (some false)) else (some false)) else (some false)) else (some false)) else (some false)) = some r := H
 have A2 := Aside0.mk A20
 clear A20
 by_cases c3 : t259 = true
 ·subst c3
  have H1 : (if a0_2 ≥ 1 then (if a0_2 ≤ 4096 then (if a0_1 ≥ 0 then (if a0_1 < a0_2 then (some (decide ((l0_3.length : Int) ≤ 16384))) else (some false)) else (some false)) else (some false)) else (some false)) = some r := by rw [if_pos rfl] at H; exact H
  clear H
  have H := H1
  clear H1
  by_cases c4 : a0_2 ≥ 1
  ·rw [if_pos c4] at H
   have c4b0 : decide (1 ≤ a0_2) = true := decide_eq_true c4
   clear c4
   by_cases c5 : a0_2 ≤ 4096
   ·rw [if_pos c5] at H
    have c5b0 : decide (a0_2 ≤ 4096) = true := decide_eq_true c5
    clear c5
    by_cases c6 : a0_1 ≥ 0
    ·rw [if_pos c6] at H
     have c6b0 : decide (0 ≤ a0_1) = true := decide_eq_true c6
     clear c6
     by_cases c7 : a0_1 < a0_2
     ·rw [if_pos c7] at H
      have c7b0 : decide (a0_1 < a0_2) = true := decide_eq_true c7
      clear c7
      obtain rfl := Option.some.inj H
      go_enter Tryz.func70, Tryz.ntmps70
      go_wp2_with (first | ((with_reducible refine gate_dst (N := 1) rfl ?_); (try (refine gate_guard (by rfl) ?_; dsimp only)); refine box_event ?hg (N := 1) ?hd (cs := #[.int .i64 a0_0, .int .i64 a0_1, .int .i64 a0_2, .slice A0_3 l0_3.length c0_3]) (t := 32) ?hr ?_; (case hd => rfl); (case hg => rfl); (case hr => first | (go_simp; done) | (go_simp; rfl)); intro gb258 hg w8 hbox hb; have n0_ := Aside0.mk (below_step (stB HB.out) hb); have n1_ := Aside0.mk (hbox); have n2_ := Aside0.mk ((by rw [hg]; exact (below_size (stB HB.out)) : w.heap.size ≤ gb258)); have n3_ := Aside0.mk ((by rw [hg]; exact (below_size (stB HB.out)) : w.heap.size ≤ gb258)); clear HB; have HB := n0_; have BK258 := n1_; have GW258 := n2_; have GE258 := n3_; clear n0_ n1_ n2_ n3_; clear hb hbox hg; obtain ⟨hcz9_0, hcz9_1, hcz9_2, hcz9_3⟩ := bc4 BK258.out; obtain ⟨hfz9_0, hfz9_1, hfz9_2, hfz9_3⟩ := bf4 BK258.out) | ((with_reducible refine gate_callee (f := 67) rfl ?_); refine goesL_ (some 5) rfl rfl Tryz.func67 (by kernel_rfl) rfl #[.int .i64 a0_0] rfl (by (try simp only [List.map_toArray, List.map_cons, List.map_nil]); first | done | rfl | (simp only [List.length_drop, List.length_take]; rfl)) ?_; (with_reducible refine (trivetref04_count.calls a0_0 true _ A2.out).mono ?_); rintro e w' ⟨rfl, ⟨nd, rfl⟩⟩; refine ⟨_, rfl, ?_⟩))
      go_ret
      exact ⟨by first | rfl | (simp [errW_none, errW_some] <;> rfl) | (simp [*, errW_none, errW_some] <;> rfl), by repeat (first | (with_reducible first | exact HB.out | apply below_alloc | apply pw_below_drewN | apply below_drew1 | refine below_set ?_ GE258.out) | exact HB.out)⟩
     ·rw [if_neg c7] at H
      have c7b0 : decide (a0_1 < a0_2) = false := decide_eq_false c7
      clear c7
      obtain rfl := Option.some.inj H
      go_enter Tryz.func70, Tryz.ntmps70
      go_wp2_with (first | ((with_reducible refine gate_dst (N := 1) rfl ?_); (try (refine gate_guard (by rfl) ?_; dsimp only)); refine box_event ?hg (N := 1) ?hd (cs := #[.int .i64 a0_0, .int .i64 a0_1, .int .i64 a0_2, .slice A0_3 l0_3.length c0_3]) (t := 32) ?hr ?_; (case hd => rfl); (case hg => rfl); (case hr => first | (go_simp; done) | (go_simp; rfl)); intro gb258 hg w10 hbox hb; have n0_ := Aside0.mk (below_step (stB HB.out) hb); have n1_ := Aside0.mk (hbox); have n2_ := Aside0.mk ((by rw [hg]; exact (below_size (stB HB.out)) : w.heap.size ≤ gb258)); have n3_ := Aside0.mk ((by rw [hg]; exact (below_size (stB HB.out)) : w.heap.size ≤ gb258)); clear HB; have HB := n0_; have BK258 := n1_; have GW258 := n2_; have GE258 := n3_; clear n0_ n1_ n2_ n3_; clear hb hbox hg; obtain ⟨hcz11_0, hcz11_1, hcz11_2, hcz11_3⟩ := bc4 BK258.out; obtain ⟨hfz11_0, hfz11_1, hfz11_2, hfz11_3⟩ := bf4 BK258.out) | ((with_reducible refine gate_callee (f := 67) rfl ?_); refine goesL_ (some 5) rfl rfl Tryz.func67 (by kernel_rfl) rfl #[.int .i64 a0_0] rfl (by (try simp only [List.map_toArray, List.map_cons, List.map_nil]); first | done | rfl | (simp only [List.length_drop, List.length_take]; rfl)) ?_; (with_reducible refine (trivetref04_count.calls a0_0 true _ A2.out).mono ?_); rintro e w' ⟨rfl, ⟨nd, rfl⟩⟩; refine ⟨_, rfl, ?_⟩))
      go_ret
      exact ⟨by first | rfl | (simp [errW_none, errW_some] <;> rfl) | (simp [*, errW_none, errW_some] <;> rfl), by repeat (first | (with_reducible first | exact HB.out | apply below_alloc | apply pw_below_drewN | apply below_drew1 | refine below_set ?_ GE258.out) | exact HB.out)⟩
    ·rw [if_neg c6] at H
     have c6b0 : decide (0 ≤ a0_1) = false := decide_eq_false c6
     clear c6
     obtain rfl := Option.some.inj H
     go_enter Tryz.func70, Tryz.ntmps70
     go_wp2_with (first | ((with_reducible refine gate_dst (N := 1) rfl ?_); (try (refine gate_guard (by rfl) ?_; dsimp only)); refine box_event ?hg (N := 1) ?hd (cs := #[.int .i64 a0_0, .int .i64 a0_1, .int .i64 a0_2, .slice A0_3 l0_3.length c0_3]) (t := 32) ?hr ?_; (case hd => rfl); (case hg => rfl); (case hr => first | (go_simp; done) | (go_simp; rfl)); intro gb258 hg w12 hbox hb; have n0_ := Aside0.mk (below_step (stB HB.out) hb); have n1_ := Aside0.mk (hbox); have n2_ := Aside0.mk ((by rw [hg]; exact (below_size (stB HB.out)) : w.heap.size ≤ gb258)); have n3_ := Aside0.mk ((by rw [hg]; exact (below_size (stB HB.out)) : w.heap.size ≤ gb258)); clear HB; have HB := n0_; have BK258 := n1_; have GW258 := n2_; have GE258 := n3_; clear n0_ n1_ n2_ n3_; clear hb hbox hg; obtain ⟨hcz13_0, hcz13_1, hcz13_2, hcz13_3⟩ := bc4 BK258.out; obtain ⟨hfz13_0, hfz13_1, hfz13_2, hfz13_3⟩ := bf4 BK258.out) | ((with_reducible refine gate_callee (f := 67) rfl ?_); refine goesL_ (some 5) rfl rfl Tryz.func67 (by kernel_rfl) rfl #[.int .i64 a0_0] rfl (by (try simp only [List.map_toArray, List.map_cons, List.map_nil]); first | done | rfl | (simp only [List.length_drop, List.length_take]; rfl)) ?_; (with_reducible refine (trivetref04_count.calls a0_0 true _ A2.out).mono ?_); rintro e w' ⟨rfl, ⟨nd, rfl⟩⟩; refine ⟨_, rfl, ?_⟩))
     go_ret
     exact ⟨by first | rfl | (simp [errW_none, errW_some] <;> rfl) | (simp [*, errW_none, errW_some] <;> rfl), by repeat (first | (with_reducible first | exact HB.out | apply below_alloc | apply pw_below_drewN | apply below_drew1 | refine below_set ?_ GE258.out) | exact HB.out)⟩
   ·rw [if_neg c5] at H
    have c5b0 : decide (a0_2 ≤ 4096) = false := decide_eq_false c5
    clear c5
    obtain rfl := Option.some.inj H
    go_enter Tryz.func70, Tryz.ntmps70
    go_wp2_with (first | ((with_reducible refine gate_dst (N := 1) rfl ?_); (try (refine gate_guard (by rfl) ?_; dsimp only)); refine box_event ?hg (N := 1) ?hd (cs := #[.int .i64 a0_0, .int .i64 a0_1, .int .i64 a0_2, .slice A0_3 l0_3.length c0_3]) (t := 32) ?hr ?_; (case hd => rfl); (case hg => rfl); (case hr => first | (go_simp; done) | (go_simp; rfl)); intro gb258 hg w14 hbox hb; have n0_ := Aside0.mk (below_step (stB HB.out) hb); have n1_ := Aside0.mk (hbox); have n2_ := Aside0.mk ((by rw [hg]; exact (below_size (stB HB.out)) : w.heap.size ≤ gb258)); have n3_ := Aside0.mk ((by rw [hg]; exact (below_size (stB HB.out)) : w.heap.size ≤ gb258)); clear HB; have HB := n0_; have BK258 := n1_; have GW258 := n2_; have GE258 := n3_; clear n0_ n1_ n2_ n3_; clear hb hbox hg; obtain ⟨hcz15_0, hcz15_1, hcz15_2, hcz15_3⟩ := bc4 BK258.out; obtain ⟨hfz15_0, hfz15_1, hfz15_2, hfz15_3⟩ := bf4 BK258.out) | ((with_reducible refine gate_callee (f := 67) rfl ?_); refine goesL_ (some 5) rfl rfl Tryz.func67 (by kernel_rfl) rfl #[.int .i64 a0_0] rfl (by (try simp only [List.map_toArray, List.map_cons, List.map_nil]); first | done | rfl | (simp only [List.length_drop, List.length_take]; rfl)) ?_; (with_reducible refine (trivetref04_count.calls a0_0 true _ A2.out).mono ?_); rintro e w' ⟨rfl, ⟨nd, rfl⟩⟩; refine ⟨_, rfl, ?_⟩))
    go_ret
    exact ⟨by first | rfl | (simp [errW_none, errW_some] <;> rfl) | (simp [*, errW_none, errW_some] <;> rfl), by repeat (first | (with_reducible first | exact HB.out | apply below_alloc | apply pw_below_drewN | apply below_drew1 | refine below_set ?_ GE258.out) | exact HB.out)⟩
  ·rw [if_neg c4] at H
   have c4b0 : decide (1 ≤ a0_2) = false := decide_eq_false c4
   clear c4
   obtain rfl := Option.some.inj H
   go_enter Tryz.func70, Tryz.ntmps70
   go_wp2_with (first | ((with_reducible refine gate_dst (N := 1) rfl ?_); (try (refine gate_guard (by rfl) ?_; dsimp only)); refine box_event ?hg (N := 1) ?hd (cs := #[.int .i64 a0_0, .int .i64 a0_1, .int .i64 a0_2, .slice A0_3 l0_3.length c0_3]) (t := 32) ?hr ?_; (case hd => rfl); (case hg => rfl); (case hr => first | (go_simp; done) | (go_simp; rfl)); intro gb258 hg w16 hbox hb; have n0_ := Aside0.mk (below_step (stB HB.out) hb); have n1_ := Aside0.mk (hbox); have n2_ := Aside0.mk ((by rw [hg]; exact (below_size (stB HB.out)) : w.heap.size ≤ gb258)); have n3_ := Aside0.mk ((by rw [hg]; exact (below_size (stB HB.out)) : w.heap.size ≤ gb258)); clear HB; have HB := n0_; have BK258 := n1_; have GW258 := n2_; have GE258 := n3_; clear n0_ n1_ n2_ n3_; clear hb hbox hg; obtain ⟨hcz17_0, hcz17_1, hcz17_2, hcz17_3⟩ := bc4 BK258.out; obtain ⟨hfz17_0, hfz17_1, hfz17_2, hfz17_3⟩ := bf4 BK258.out) | ((with_reducible refine gate_callee (f := 67) rfl ?_); refine goesL_ (some 5) rfl rfl Tryz.func67 (by kernel_rfl) rfl #[.int .i64 a0_0] rfl (by (try simp only [List.map_toArray, List.map_cons, List.map_nil]); first | done | rfl | (simp only [List.length_drop, List.length_take]; rfl)) ?_; (with_reducible refine (trivetref04_count.calls a0_0 true _ A2.out).mono ?_); rintro e w' ⟨rfl, ⟨nd, rfl⟩⟩; refine ⟨_, rfl, ?_⟩))
   go_ret
   exact ⟨by first | rfl | (simp [errW_none, errW_some] <;> rfl) | (simp [*, errW_none, errW_some] <;> rfl), by repeat (first | (with_reducible first | exact HB.out | apply below_alloc | apply pw_below_drewN | apply below_drew1 | refine below_set ?_ GE258.out) | exact HB.out)⟩
 ·replace c3 := Bool.eq_false_iff.mpr c3
  subst c3
  have H1 : (some false) = some r := by rw [if_neg (show ¬ (false = true) by decide)] at H; exact H
  clear H
  have H := H1
  clear H1
  obtain rfl := Option.some.inj H
  go_enter Tryz.func70, Tryz.ntmps70
  go_wp2_with (first | ((with_reducible refine gate_dst (N := 1) rfl ?_); (try (refine gate_guard (by rfl) ?_; dsimp only)); refine box_event ?hg (N := 1) ?hd (cs := #[.int .i64 a0_0, .int .i64 a0_1, .int .i64 a0_2, .slice A0_3 l0_3.length c0_3]) (t := 32) ?hr ?_; (case hd => rfl); (case hg => rfl); (case hr => first | (go_simp; done) | (go_simp; rfl)); intro gb258 hg w18 hbox hb; have n0_ := Aside0.mk (below_step (stB HB.out) hb); have n1_ := Aside0.mk (hbox); have n2_ := Aside0.mk ((by rw [hg]; exact (below_size (stB HB.out)) : w.heap.size ≤ gb258)); have n3_ := Aside0.mk ((by rw [hg]; exact (below_size (stB HB.out)) : w.heap.size ≤ gb258)); clear HB; have HB := n0_; have BK258 := n1_; have GW258 := n2_; have GE258 := n3_; clear n0_ n1_ n2_ n3_; clear hb hbox hg; obtain ⟨hcz19_0, hcz19_1, hcz19_2, hcz19_3⟩ := bc4 BK258.out; obtain ⟨hfz19_0, hfz19_1, hfz19_2, hfz19_3⟩ := bf4 BK258.out) | ((with_reducible refine gate_callee (f := 67) rfl ?_); refine goesL_ (some 5) rfl rfl Tryz.func67 (by kernel_rfl) rfl #[.int .i64 a0_0] rfl (by (try simp only [List.map_toArray, List.map_cons, List.map_nil]); first | done | rfl | (simp only [List.length_drop, List.length_take]; rfl)) ?_; (with_reducible refine (trivetref04_count.calls a0_0 false _ A2.out).mono ?_); rintro e w' ⟨rfl, ⟨nd, rfl⟩⟩; refine ⟨_, rfl, ?_⟩))
  go_ret
  exact ⟨by first | rfl | (simp [errW_none, errW_some] <;> rfl) | (simp [*, errW_none, errW_some] <;> rfl), by repeat (first | (with_reducible first | exact HB.out | apply below_alloc | apply pw_below_drewN | apply below_drew1 | refine below_set ?_ GE258.out) | exact HB.out)⟩
end Go.Proofs.YtgiefblcckikeaaGreat.G
end

section
/- What trivet/trivetref01's Num and Put come to, in plain Lean. -/
namespace Go.Proofs.YtgiefblcckikeaaGreat.M
open Go.RowKit Go.Proofs.YtgiefblcckikeaaGreatW.PrintWords Go.Proofs.YtgiefblcckikeaaGreatW.PrintLast Go.Proofs.YtgiefblcckikeaaGreatW.PrintMore Go.Proofs.YtgiefblcckikeaaGreat.G
end Go.Proofs.YtgiefblcckikeaaGreat.M
end

section
-- Written by a program of this session's (wip/gprint.py over the kit's printer).
namespace Go.Proofs.YtgiefblcckikeaaGreat.G
open Go.RowKit Go.Proofs.YtgiefblcckikeaaGreatW.PrintWords Go.Proofs.YtgiefblcckikeaaGreatW.PrintLast Go.Proofs.YtgiefblcckikeaaGreatW.PrintMore
attribute [local go_sem] max2_int min2_int max_two min_two max_three min_three max_four min_four   -- for this text's walks alone
end Go.Proofs.YtgiefblcckikeaaGreat.G
end

section
-- Written by a program of this session's (wip/gprint.py over the kit's printer).
namespace Go.Proofs.YtgiefblcckikeaaGreat.G
open Go.RowKit Go.Proofs.YtgiefblcckikeaaGreatW.PrintWords Go.Proofs.YtgiefblcckikeaaGreatW.PrintLast Go.Proofs.YtgiefblcckikeaaGreatW.PrintMore
attribute [local go_sem] max2_int min2_int max_two min_two max_three min_three max_four min_four   -- for this text's walks alone
end Go.Proofs.YtgiefblcckikeaaGreat.G
end

section
/- A transaction's form. -/
namespace Go.Proofs.YtgiefblcckikeaaGreat.M
open Go.RowKit Go.Proofs.YtgiefblcckikeaaGreatW.PrintWords Go.Proofs.YtgiefblcckikeaaGreatW.PrintLast Go.Proofs.YtgiefblcckikeaaGreatW.PrintMore Go.Proofs.YtgiefblcckikeaaGreat.G
end Go.Proofs.YtgiefblcckikeaaGreat.M
end

section
/- The reference's functions over transactions, as this session's words say them. -/
namespace Go.Proofs.YtgiefblcckikeaaGreat.M
open Go.RowKit Go.Proofs.YtgiefblcckikeaaGreatW.PrintWords Go.Proofs.YtgiefblcckikeaaGreatW.PrintLast Go.Proofs.YtgiefblcckikeaaGreatW.PrintMore Go.Proofs.YtgiefblcckikeaaGreat.G
theorem TxC.ls {w : World} {t : TxD} {A2 A3 A4 A5 : Option Addr} {c2 c3 c4 c5 : Nat} (h : TxC w t A2 c2 A3 c3 A4 c4 A5 c5) : TxLs t := ⟨Kd.C_max h.g2, Kd.C_max h.g3, Kd.C_max h.g4, Kd.C_max h.g5⟩
theorem bEqual_is {w : World} (A : Option Addr) (c : Nat) (a : List Int) (B : Option Addr) (d : Nat) (b : List Int) (ha : Kd.C (Kd.int .u8) w A a.length a) (hc : a.length ≤ c) (hb : Kd.C (Kd.int .u8) w B b.length b) (hd : b.length ≤ d) :
  Calls Tryz.prog 22 #[.slice A a.length c, .slice B b.length d] w fun e w' => e = .returned (.bool (eqS a b)) ∧ Below w.heap.size w w' :=
 (G.bytes_Equal.calls A c a B d b (eqS a b) w ha hc hb hd rfl).mono (fun e w' ⟨h1, n, h2⟩ => ⟨h1, by subst h2; exact pw_below_drewN (Below.refl _ _) n⟩)
theorem eqS_refl (a : List Int) : eqS a a = true := by unfold eqS; simp
end Go.Proofs.YtgiefblcckikeaaGreat.M
end

section
/- Which messages are the same: record.SameMsg, the reference's SameMsg (printed by gensame04.py). -/
attribute [local irreducible] Go.wpStill
namespace Go.Proofs.YtgiefblcckikeaaGreat.M
open Go.RowKit Go.Proofs.YtgiefblcckikeaaGreatW.PrintWords Go.Proofs.YtgiefblcckikeaaGreatW.PrintLast Go.Proofs.YtgiefblcckikeaaGreatW.PrintMore Go.Proofs.YtgiefblcckikeaaGreat.G
theorem tr_get {w : World} {A : Option Addr} {n : Nat} {l : List TrD} (h : Kd.C G.k63 w A n l) {k : Nat} {x : TrD} (hk : l[k]? = some x) :
  ∃ ad A4 c4, A = some ad ∧ w.cell? (ad.add (k * 5)) = some (.int .i64 x.f0) ∧ w.cell? ⟨(ad.add (k * 5)).block, (ad.add (k * 5)).off + 1, none⟩ = some (.int .i64 x.f1.f0) ∧ w.cell? ⟨(ad.add (k * 5)).block, (ad.add (k * 5)).off + 2, none⟩ = some (.int .i64 x.f1.f1) ∧ w.cell? ⟨(ad.add (k * 5)).block, (ad.add (k * 5)).off + 3, none⟩ = some (.int .i64 x.f1.f2) ∧ w.cell? ⟨(ad.add (k * 5)).block, (ad.add (k * 5)).off + 4, none⟩ = some (.slice A4 x.f1.f3.length c4) ∧ x.f1.f3.length ≤ c4 ∧ G.k26.C w A4 x.f1.f3.length x.f1.f3 := by
 have hlt : k < n := by
  have := (List.getElem?_eq_some_iff.1 hk).1
  have := h.1
  omega
 obtain ⟨ad, A4, c4, rfl, h0, h1, h2, h3, h4, l4, g4⟩ := G.at_T63 h (k : Int) (by omega) (by omega)
 have e : G.rd_T63 l (k : Int) = x := by unfold G.rd_T63; rw [Int.toNat_natCast, List.getD_eq_getElem?_getD, hk]; rfl
 rw [e] at h0 h1 h2 h3 h4 l4 g4
 rw [Int.toNat_natCast] at h0 h1 h2 h3 h4
 exact ⟨ad, A4, c4, rfl, h0, h1, h2, h3, h4, l4, g4⟩
theorem refSameEn_is (k f n : Int) (A : Option Addr) (c : Nat) (l : List TxD) (k' f' n' : Int) (A' : Option Addr) (c' : Nat) (l' : List TxD) (w : World) (ha : Kd.C G.k26 w A l.length l) (hc : l.length ≤ c) (hb : Kd.C G.k26 w A' l'.length l') (hc' : l'.length ≤ c') :
  Calls Tryz.prog 27 #[.agg #[.int .i64 k, .int .i64 f, .int .i64 n, .slice A l.length c], .agg #[.int .i64 k', .int .i64 f', .int .i64 n', .slice A' l'.length c']] w fun e w' => e = .returned (.bool (eqEn k f n l k' f' n' l')) ∧ Below w.heap.size w w' := by
 obtain ⟨M, hM⟩ := bound_T l
 refine G.trivetref04_SameEntry.calls (M + l.length + 3) k f n A c l k' f' n' A' c' l' _ w ha hc hb hc' (sameEn_r _ k f n l k' f' n' l' (fun t ht => by have := hM t ht; omega) (by omega) ha.2.1 (fun t ht => ?_))
 obtain ⟨i, hi⟩ := List.getElem?_of_mem ht
 obtain ⟨ad, A2, c2, A3, c3, A4, c4, A5, c5, _, _, hX⟩ := tx_get ha hi
 exact hX.le
set_option maxHeartbeats 1000000 in
theorem sameTr1_is {w : World} (a b : TrD) {A B : Option Addr} {c d : Nat} (hc : a.f1.f3.length ≤ c) (ha : Kd.C G.k26 w A a.f1.f3.length a.f1.f3) (hd : b.f1.f3.length ≤ d) (hb : Kd.C G.k26 w B b.f1.f3.length b.f1.f3) :
  Calls Tryz.prog 145 #[.agg #[.int .i64 a.f0, .int .i64 a.f1.f0, .int .i64 a.f1.f1, .int .i64 a.f1.f2, .slice A a.f1.f3.length c], .agg #[.int .i64 b.f0, .int .i64 b.f1.f0, .int .i64 b.f1.f1, .int .i64 b.f1.f2, .slice B b.f1.f3.length d]] w fun e w' => e = .returned (.bool (eqTr a b)) ∧ Below w.heap.size w w' := by
 have HB := Lib.hid (show Below w.heap.size w ((w.alloc (.cells #[.int .i64 a.f0, .int .i64 a.f1.f0, .int .i64 a.f1.f1, .int .i64 a.f1.f2, .slice A a.f1.f3.length c] 63)).alloc (.cells #[.int .i64 b.f0, .int .i64 b.f1.f0, .int .i64 b.f1.f1, .int .i64 b.f1.f2, .slice B b.f1.f3.length d] 63)) from ((Below.refl _ _).alloc (Nat.le_refl _) _).alloc (by simp) _)
 have HE := Lib.hid (sameEn_is a.f1.f0 a.f1.f1 a.f1.f2 A c a.f1.f3 b.f1.f0 b.f1.f1 b.f1.f2 B d b.f1.f3 _ (Kd.C_below ha HB.out) (Kd.C_below hb HB.out))
 obtain ⟨q, hq⟩ : ∃ q, eqTr a b = q := ⟨_, rfl⟩
 have HQ := Lib.hid hq
 rw [hq]
 clear hq ha hb hc hd
 cases h0 : (a.f0 == b.f0) with
 | false =>
  have HV := Lib.hid (show q = false by rw [← HQ.out]; unfold eqTr; rw [h0, Bool.false_and])
  go_enter Tryz.func145, Tryz.ntmps145
  go_wp2_with fail
  go_ret
  exact ⟨by rw [HV.out]; rfl, HB.out⟩
 | true =>
  have HV := Lib.hid (show q = eqEn a.f1.f0 a.f1.f1 a.f1.f2 a.f1.f3 b.f1.f0 b.f1.f1 b.f1.f2 b.f1.f3 by rw [← HQ.out]; unfold eqTr; rw [h0, Bool.true_and])
  go_enter Tryz.func145, Tryz.ntmps145
  go_wp2_with fail
  refine HE.out.mono ?_
  rintro e w' ⟨rfl, hb⟩
  have HB2 := Lib.hid (HB.out.trans (hb.mono HB.out.size))
  clear hb
  go_wp2_with fail
  go_ret
  exact ⟨by rw [HV.out]; rfl, HB2.out⟩
set_option maxHeartbeats 1000000 in
theorem refSameTr_is {w : World} (a b : TrD) {A B : Option Addr} {c d : Nat} (hc : a.f1.f3.length ≤ c) (ha : Kd.C G.k26 w A a.f1.f3.length a.f1.f3) (hd : b.f1.f3.length ≤ d) (hb : Kd.C G.k26 w B b.f1.f3.length b.f1.f3) :
  Calls Tryz.prog 135 #[.agg #[.int .i64 a.f0, .int .i64 a.f1.f0, .int .i64 a.f1.f1, .int .i64 a.f1.f2, .slice A a.f1.f3.length c], .agg #[.int .i64 b.f0, .int .i64 b.f1.f0, .int .i64 b.f1.f1, .int .i64 b.f1.f2, .slice B b.f1.f3.length d]] w fun e w' => e = .returned (.bool (eqTr a b)) ∧ Below w.heap.size w w' := by
 have HB := Lib.hid (show Below w.heap.size w ((w.alloc (.cells #[.int .i64 a.f0, .int .i64 a.f1.f0, .int .i64 a.f1.f1, .int .i64 a.f1.f2, .slice A a.f1.f3.length c] 63)).alloc (.cells #[.int .i64 b.f0, .int .i64 b.f1.f0, .int .i64 b.f1.f1, .int .i64 b.f1.f2, .slice B b.f1.f3.length d] 63)) from ((Below.refl _ _).alloc (Nat.le_refl _) _).alloc (by simp) _)
 have HE := Lib.hid (refSameEn_is a.f1.f0 a.f1.f1 a.f1.f2 A c a.f1.f3 b.f1.f0 b.f1.f1 b.f1.f2 B d b.f1.f3 _ (Kd.C_below ha HB.out) hc (Kd.C_below hb HB.out) hd)
 obtain ⟨q, hq⟩ : ∃ q, eqTr a b = q := ⟨_, rfl⟩
 have HQ := Lib.hid hq
 rw [hq]
 clear hq ha hb hc hd
 cases h0 : (a.f0 == b.f0) with
 | false =>
  have HV := Lib.hid (show q = false by rw [← HQ.out]; unfold eqTr; rw [h0, Bool.false_and])
  go_enter Tryz.func135, Tryz.ntmps135
  go_wp2_with fail
  go_ret
  exact ⟨by rw [HV.out]; rfl, HB.out⟩
 | true =>
  have HV := Lib.hid (show q = eqEn a.f1.f0 a.f1.f1 a.f1.f2 a.f1.f3 b.f1.f0 b.f1.f1 b.f1.f2 b.f1.f3 by rw [← HQ.out]; unfold eqTr; rw [h0, Bool.true_and])
  go_enter Tryz.func135, Tryz.ntmps135
  go_wp2_with fail
  refine HE.out.mono ?_
  rintro e w' ⟨rfl, hb⟩
  have HB2 := Lib.hid (HB.out.trans (hb.mono HB.out.size))
  clear hb
  go_wp2_with fail
  go_ret
  exact ⟨by rw [HV.out]; rfl, HB2.out⟩
def eqfuncT_isI (a b : List TrD) (w : World) (i : Value) (wr : World) : Prop := ∃ k : Nat, i = .int .i64 k ∧ k ≤ a.length ∧ eqTrs a b = eqTrs (a.drop k) (b.drop k) ∧ Below w.heap.size w wr
set_option maxHeartbeats 1000000 in
theorem eqfuncT_is (A B : Option Addr) (c d : Nat) (a b : List TrD) (w : World) (ha : Kd.C G.k63 w A a.length a) (hb : Kd.C G.k63 w B b.length b) :
  Calls Tryz.prog 144 #[.slice A a.length c, .slice B b.length d, .func (.func 145) #[] #[]] w fun e w' => e = .returned (.bool (eqTrs a b)) ∧ Below w.heap.size w w' := by
 have hlm : a.length ≤ 9223372036854775807 := ha.2.1
 have HA := Lib.hid ha; have HB := Lib.hid hb
 clear ha hb
 by_cases hl : a.length = b.length
 ·have hlb : ((a.length : Int) != (b.length : Int)) = false := by rw [bne_eq_false_iff_eq]; omega
  have HL := Lib.hid hl
  clear hl
  go_enter Tryz.func144, Tryz.ntmps144
  go_wp2_with fail
  go_loopw [17] (fun i wr => eqfuncT_isI a b w i wr) (fun i _ => a.length - (intOf i).toNat)
  case atStart => exact ⟨0, rfl, Nat.zero_le _, rfl, Below.refl _ _⟩
  case round =>
   obtain ⟨k, rfl, hk, he, hb⟩ := hrel
   have HE := Lib.hid he; have HBr := Lib.hid hb
   clear he hb
   by_cases hlt : k < a.length
   ·obtain ⟨x, hx⟩ : ∃ x, a[k]? = some x := ⟨_, List.getElem?_eq_getElem hlt⟩
    obtain ⟨y, hy⟩ : ∃ y, b[k]? = some y := ⟨_, List.getElem?_eq_getElem (by have := HL.out; omega)⟩
    obtain ⟨ad, A4, c4, rfl, x0, x1, x2, x3, x4, lx, gx⟩ := tr_get (Kd.C_below HA.out HBr.out) hx
    obtain ⟨bd, B4, d4, rfl, y0, y1, y2, y3, y4, ly, gy⟩ := tr_get (Kd.C_below HB.out HBr.out) hy
    have HXX := Lib.hid (And.intro lx gx); have HYY := Lib.hid (And.intro ly gy)
    have HS := Lib.hid (eqTrs_take hx hy)
    have hkb : k < b.length := by have := HL.out; omega
    clear lx gx ly gy hx hy
    have zb : (bd.add (k * 5)).block < wr.heap.size := World.block_lt_of_cell? _ _ y0
    have HB2 := Lib.hid (show Below wr.heap.size wr ((wr.alloc (.cells #[.int .i64 x.f0, .int .i64 x.f1.f0, .int .i64 x.f1.f1, .int .i64 x.f1.f2, .slice A4 x.f1.f3.length c4] 63)).alloc (.cells #[.int .i64 y.f0, .int .i64 y.f1.f0, .int .i64 y.f1.f1, .int .i64 y.f1.f2, .slice B4 y.f1.f3.length d4] 63)) from ((Below.refl _ _).alloc (Nat.le_refl _) _).alloc (by simp) _)
    go_wp2_with fail
    refine (sameTr1_is x y HXX.out.1 (Kd.C_below HXX.out.2 HB2.out) HYY.out.1 (Kd.C_below HYY.out.2 HB2.out)).mono ?_
    rintro e w' ⟨rfl, hb⟩
    have HB3 := Lib.hid (HBr.out.trans ((HB2.out.trans (hb.mono HB2.out.size)).mono HBr.out.size))
    clear hb x0 x1 x2 x3 x4 y0 y1 y2 y3 y4 zb
    obtain ⟨q, hq⟩ : ∃ q, eqTr x y = q := ⟨_, rfl⟩
    have HQ := Lib.hid hq
    rw [hq]
    clear hq
    cases q with
    | true =>
     go_wp2_with fail
     go_roundw
     case rel => exact ⟨k + 1, by go_num, hlt, by rw [HE.out, HS.out, HQ.out, Bool.true_and], HB3.out⟩
     case measure => simp [intOf]; omega
    | false =>
     go_wp2_with fail
     go_ret
     exact ⟨by rw [HE.out, HS.out, HQ.out]; rfl, HB3.out⟩
   ·have HF := Lib.hid (show eqTrs a b = true by rw [HE.out, List.drop_of_length_le (by omega), List.drop_of_length_le (by have := HL.out; omega)]; rfl)
    go_wp2_with fail
    go_ret
    exact ⟨by rw [HF.out]; rfl, HBr.out⟩
 ·have hlb : ((a.length : Int) != (b.length : Int)) = true := by rw [bne_iff_ne]; omega
  have HF := Lib.hid (eqTrs_len hl)
  clear hl
  go_enter Tryz.func144, Tryz.ntmps144
  go_wp2_with fail
  go_ret
  exact ⟨by rw [HF.out]; rfl, Below.refl _ _⟩
def refSameTrs_isI (a b : List TrD) (w : World) (i : Value) (wr : World) : Prop := ∃ k : Nat, i = .int .i64 k ∧ k ≤ a.length ∧ eqTrs a b = eqTrs (a.drop k) (b.drop k) ∧ Below w.heap.size w wr
set_option maxHeartbeats 1000000 in
theorem refSameTrs_is (A B : Option Addr) (c d : Nat) (a b : List TrD) (w : World) (ha : Kd.C G.k63 w A a.length a) (hb : Kd.C G.k63 w B b.length b) :
  Calls Tryz.prog 64 #[.slice A a.length c, .slice B b.length d] w fun e w' => e = .returned (.bool (eqTrs a b)) ∧ Below w.heap.size w w' := by
 have hlm : a.length ≤ 9223372036854775807 := ha.2.1
 have HA := Lib.hid ha; have HB := Lib.hid hb
 clear ha hb
 by_cases hl : a.length = b.length
 ·have hlb : ((a.length : Int) != (b.length : Int)) = false := by rw [bne_eq_false_iff_eq]; omega
  have HL := Lib.hid hl
  clear hl
  go_enter Tryz.func64, Tryz.ntmps64
  go_wp2_with fail
  go_loopw [5] (fun i wr => refSameTrs_isI a b w i wr) (fun i _ => a.length - (intOf i).toNat)
  case atStart => exact ⟨0, rfl, Nat.zero_le _, rfl, Below.refl _ _⟩
  case round =>
   obtain ⟨k, rfl, hk, he, hb⟩ := hrel
   have HE := Lib.hid he; have HBr := Lib.hid hb
   clear he hb
   by_cases hlt : k < a.length
   ·obtain ⟨x, hx⟩ : ∃ x, a[k]? = some x := ⟨_, List.getElem?_eq_getElem hlt⟩
    obtain ⟨y, hy⟩ : ∃ y, b[k]? = some y := ⟨_, List.getElem?_eq_getElem (by have := HL.out; omega)⟩
    obtain ⟨ad, A4, c4, rfl, x0, x1, x2, x3, x4, lx, gx⟩ := tr_get (Kd.C_below HA.out HBr.out) hx
    obtain ⟨bd, B4, d4, rfl, y0, y1, y2, y3, y4, ly, gy⟩ := tr_get (Kd.C_below HB.out HBr.out) hy
    have HXX := Lib.hid (And.intro lx gx); have HYY := Lib.hid (And.intro ly gy)
    have HS := Lib.hid (eqTrs_take hx hy)
    have hkb : k < b.length := by have := HL.out; omega
    clear lx gx ly gy hx hy
    have zb : (bd.add (k * 5)).block < wr.heap.size := World.block_lt_of_cell? _ _ y0
    have HB2 := Lib.hid (show Below wr.heap.size wr wr.drew from (Below.refl _ _).drew)
    go_wp2_with fail
    refine wp_region_still_tail 8 (by kernel_rfl) (by kernel_rfl) ?_
    simp only [List.take_succ_cons, List.take_zero, List.drop_succ_cons, List.drop_zero]
    iterate 8 still_step
    refine wpStill_nil ?_
    change wpList _ _ _ _ _ wr.drew
    go_wp2_with fail
    refine (refSameTr_is x y HXX.out.1 (Kd.C_below HXX.out.2 HB2.out) HYY.out.1 (Kd.C_below HYY.out.2 HB2.out)).mono ?_
    rintro e w' ⟨rfl, hb⟩
    have HB3 := Lib.hid (HBr.out.trans ((HB2.out.trans (hb.mono HB2.out.size)).mono HBr.out.size))
    clear hb x0 x1 x2 x3 x4 y0 y1 y2 y3 y4 zb
    obtain ⟨q, hq⟩ : ∃ q, eqTr x y = q := ⟨_, rfl⟩
    have HQ := Lib.hid hq
    rw [hq]
    clear hq
    cases q with
    | true =>
     go_wp2_with fail
     go_roundw
     case rel => exact ⟨k + 1, by go_num, hlt, by rw [HE.out, HS.out, HQ.out, Bool.true_and], HB3.out⟩
     case measure => simp [intOf]; omega
    | false =>
     go_wp2_with fail
     go_ret
     exact ⟨by rw [HE.out, HS.out, HQ.out]; rfl, HB3.out⟩
   ·have HF := Lib.hid (show eqTrs a b = true by rw [HE.out, List.drop_of_length_le (by omega), List.drop_of_length_le (by have := HL.out; omega)]; rfl)
    go_wp2_with fail
    go_ret
    exact ⟨by rw [HF.out]; rfl, HBr.out⟩
 ·have hlb : ((a.length : Int) != (b.length : Int)) = true := by rw [bne_iff_ne]; omega
  have HF := Lib.hid (eqTrs_len hl)
  clear hl
  go_enter Tryz.func64, Tryz.ntmps64
  go_wp2_with fail
  go_ret
  exact ⟨by rw [HF.out]; rfl, Below.refl _ _⟩
theorem MsBox.cell {W : World} {b : Nat} {m : MsgD} {A8 A12 A16 : Option Addr} {c8 c12 c16 : Nat} (h : MsBox W b m A8 c8 A12 c12 A16 c16) : W.cell? ⟨b, 0, none⟩ = some (.int .i64 m.f0) ∧ W.cell? ⟨b, 1, none⟩ = some (.int .i64 m.f1) ∧ W.cell? ⟨b, 2, none⟩ = some (.int .i64 m.f2) ∧ W.cell? ⟨b, 3, none⟩ = some (.int .i64 m.f3) ∧ W.cell? ⟨b, 4, none⟩ = some (.int .i64 m.f4) ∧ W.cell? ⟨b, 5, none⟩ = some (.int .i64 m.f5) ∧ W.cell? ⟨b, 6, none⟩ = some (.int .i64 m.f6) ∧ W.cell? ⟨b, 7, none⟩ = some (.bool m.f7) ∧ W.cell? ⟨b, 8, none⟩ = some (.slice A8 m.f8.length c8) ∧ W.cell? ⟨b, 9, none⟩ = some (.int .i64 m.f9.f0) ∧ W.cell? ⟨b, 10, none⟩ = some (.int .i64 m.f9.f1) ∧ W.cell? ⟨b, 11, none⟩ = some (.int .i64 m.f9.f2) ∧ W.cell? ⟨b, 12, none⟩ = some (.slice A12 m.f9.f3.length c12) ∧ W.cell? ⟨b, 13, none⟩ = some (.int .i64 m.f10.f0) ∧ W.cell? ⟨b, 14, none⟩ = some (.int .i64 m.f10.f1) ∧ W.cell? ⟨b, 15, none⟩ = some (.int .i64 m.f10.f2) ∧ W.cell? ⟨b, 16, none⟩ = some (.slice A16 m.f10.f3.length c16) := ⟨(blk_cell h 0).trans rfl, (blk_cell h 1).trans rfl, (blk_cell h 2).trans rfl, (blk_cell h 3).trans rfl, (blk_cell h 4).trans rfl, (blk_cell h 5).trans rfl, (blk_cell h 6).trans rfl, (blk_cell h 7).trans rfl, (blk_cell h 8).trans rfl, (blk_cell h 9).trans rfl, (blk_cell h 10).trans rfl, (blk_cell h 11).trans rfl, (blk_cell h 12).trans rfl, (blk_cell h 13).trans rfl, (blk_cell h 14).trans rfl, (blk_cell h 15).trans rfl, (blk_cell h 16).trans rfl⟩
theorem MsBox.lt {W : World} {b : Nat} {m : MsgD} {A8 A12 A16 : Option Addr} {c8 c12 c16 : Nat} (h : MsBox W b m A8 c8 A12 c12 A16 c16) : b < W.heap.size := (Array.getElem?_eq_some_iff.1 h).1
theorem MsBox.below {W W' : World} {b : Nat} {m : MsgD} {A8 A12 A16 : Option Addr} {c8 c12 c16 : Nat} (h : MsBox W b m A8 c8 A12 c12 A16 c16) (hb : Below W.heap.size W W') : MsBox W' b m A8 c8 A12 c12 A16 c16 := (hb.block b h.lt).trans h
end Go.Proofs.YtgiefblcckikeaaGreat.M
end

section
/- A whole struct's load, at once. -/
namespace Go.Proofs.YtgiefblcckikeaaGreat.M
open Go
end Go.Proofs.YtgiefblcckikeaaGreat.M
end

section
/- A chain of && and ||: behind a false (true) it needs no walk, operation by operation; and a list of operations may be walked part by part. -/
namespace Go.Proofs.YtgiefblcckikeaaGreat.M
open Go
structure Aside0C (p : Prop) : Prop where mk :: (out : p)
abbrev Kn := List (Nat × Option Bool)
def Knows (a : Act) (K : Kn) : Prop := ∀ p, p ∈ K → a.tmps[p.1]? = some (match p.2 with | some b => .bool b | none => undef)
def kget : Kn → Nat → Option (Option Bool)
 | [], _ => none
 | p :: K, d => if p.1 = d then some p.2 else kget K d
def kdel (K : Kn) (d : Nat) : Kn := K.filter (fun p => decide (p.1 ≠ d))
def kput (N : Nat) (K : Kn) (dst : Option Tmp) (v : Option Bool) : Option Kn := match dst with
 | none => some K
 | some d => if d < N then some ((d, v) :: kdel K d) else none
def kval (K : Kn) : Operand → Option Bool
 | .tmp t => match kget K t with
  | some (some b) => some b
  | _ => none
 | .const (.bool b) => some b
 | _ => none
def kwant (ops : Array Oper) (K : Kn) (o : Oper) : Option Bool := match o.guard with
 | none => some true
 | some (j, want) => match (ops[j]?).bind (·.dst) with
  | none => some false
  | some d => match kget K d with
   | some (some b) => some (b == want)
   | some none => some false
   | none => none
def kexec (K : Kn) (o : Oper) : Option Bool := match o.op with
 | .move x | .assign x => kval K x
 | .pick c x y => match kval K c with
  | some true => kval K x
  | some false => kval K y
  | none => none
 | .unOp .not _ x => (kval K x).map (!·)
 | _ => none
def chainRun (ops : Array Oper) (N : Nat) : List Oper → Kn → Option Kn
 | [], K => some K
 | o :: r, K => match kwant ops K o with
  | none => none
  | some false => (kput N K o.dst none).bind (chainRun ops N r)
  | some true => (kexec K o).bind fun b => (kput N K o.dst (some b)).bind (chainRun ops N r)
theorem kget_mem : ∀ {K : Kn} {d : Nat} {v : Option Bool}, kget K d = some v → (d, v) ∈ K
 | p :: K, d, v, h => by
  unfold kget at h
  split at h
  ·obtain rfl := Option.some.inj h
   next e => subst e; exact List.mem_cons_self
  ·exact List.mem_cons_of_mem _ (kget_mem h)
theorem Knows.put {a : Act} {K K' : Kn} {N : Nat} {dst : Option Tmp} {v : Option Bool} {u : Value} (h : Knows a K) (hu : u = (match v with | some b => .bool b | none => undef)) (hN : N ≤ a.tmps.size) (hp : kput N K dst v = some K') : Knows (a.put dst u) K' ∧ N ≤ (a.put dst u).tmps.size ∧ (a.put dst u).defers = a.defers := by
 unfold kput at hp
 cases dst with
 | none => obtain rfl := Option.some.inj hp; exact ⟨h, hN, rfl⟩
 | some d =>
  simp only at hp
  by_cases hd : d < N
  ·rw [if_pos hd] at hp
   obtain rfl := Option.some.inj hp
   refine ⟨fun p hm => ?_, by simpa [Act.put] using hN, rfl⟩
   show (a.tmps.setIfInBounds d u)[p.1]? = _
   rcases List.mem_cons.1 hm with rfl | hm
   ·rw [Array.getElem?_setIfInBounds_self_of_lt (Nat.lt_of_lt_of_le hd hN), hu]
   ·have h2 := List.mem_filter.1 hm
    have h3 : p.1 ≠ d := of_decide_eq_true h2.2
    rw [Array.getElem?_setIfInBounds_ne (fun e => h3 e.symm)]
    exact h p h2.1
  ·rw [if_neg hd] at hp; cases hp
theorem kval_eval {a : Act} {K : Kn} {x : Operand} {b : Bool} (h : Knows a K) (hx : kval K x = some b) : a.eval x = .bool b := by
 unfold kval at hx
 split at hx
 ·next t =>
  split at hx
  ·next b' hg =>
   obtain rfl := Option.some.inj hx
   have := h _ (kget_mem hg)
   simp only at this
   show a.tmps.getD t undef = _
   rw [Array.getD_eq_getD_getElem?, this]
   rfl
  ·cases hx
 ·obtain rfl := Option.some.inj hx; rfl
 ·cases hx
theorem kexec_run {P : Program} {a : Act} {K : Kn} {o : Oper} {b : Bool} (h : Knows a K) (hx : kexec K o = some b) (w : World) : (execOp a.eval o).run P w = .ok (.value (.bool b)) w := by
 unfold kexec at hx
 split at hx
 ·next x ho => rw [BigFrame.run_move x ho, kval_eval h hx]
 ·next x ho => rw [BigFrame.run_assign x ho, kval_eval h hx]
 ·next c x y ho =>
  split at hx
  ·next hc => unfold execOp; rw [ho]; simp only [kval_eval h hc, kval_eval h hx]; rfl
  ·next hc => unfold execOp; rw [ho]; simp only [kval_eval h hc, kval_eval h hx]; rfl
  ·cases hx
 ·next tt x ho =>
  obtain ⟨b', hb', rfl⟩ := Option.map_eq_some_iff.1 hx
  unfold execOp
  rw [ho]
  simp only [kval_eval h hb']
  rfl
 ·cases hx
theorem chain_run {P : Program} {ops : Array Oper} {Q : Exit → Act → World → Prop} {w : World} {N : Nat} : ∀ (l : List Oper) (K K' : Kn) (a : Act), chainRun ops N l K = some K' → Knows a K → N ≤ a.tmps.size →
  (∀ a' : Act, Knows a' K' → a'.defers = a.defers → Q .normal a' w) → wpList P ops Q l a w
 | [], K, K', a, hr, h, hN, hq => by obtain rfl := Option.some.inj hr; exact hq a h rfl
 | o :: r, K, K', a, hr, h, hN, hq => by
  unfold chainRun at hr
  have hw : ∀ b, kwant ops K o = some b → Region.wanted o (yielded ops a.tmps) = b := by
   intro b hb
   unfold kwant at hb
   unfold Region.wanted
   split at hb
   ·next hg => rw [hg]; exact Option.some.inj hb
   ·next j want hg =>
    rw [hg]
    simp only
    unfold yielded
    split at hb
    ·next hd => rw [hd]; obtain rfl := Option.some.inj hb; rfl
    ·next d hd =>
     rw [hd, Option.bind_some]
     split at hb
     ·next b' hk => rw [h _ (kget_mem hk)]; obtain rfl := Option.some.inj hb; cases b' <;> cases want <;> rfl
     ·next hk => rw [h _ (kget_mem hk)]; obtain rfl := Option.some.inj hb; rfl
     ·cases hb
  unfold wpList
  split at hr
  ·cases hr
  ·next hk =>
   rw [hw _ hk, if_neg (by simp)]
   obtain ⟨K1, h1, h2⟩ := Option.bind_eq_some_iff.1 hr
   obtain ⟨h3, h4, h5⟩ := h.put (u := undef) rfl hN h1
   exact chain_run r K1 K' _ h2 h3 h4 (fun a' q1 q2 => hq a' q1 (q2.trans h5))
  ·next hk =>
   rw [hw _ hk, if_pos rfl]
   obtain ⟨b, hb, h0⟩ := Option.bind_eq_some_iff.1 hr
   obtain ⟨K1, h1, h2⟩ := Option.bind_eq_some_iff.1 h0
   obtain ⟨h3, h4, h5⟩ := h.put (u := .bool b) (v := some b) rfl hN h1
   refine .inl ?_
   unfold Oper.wp
   rw [kexec_run h hb]
   exact chain_run r K1 K' _ h2 h3 h4 (fun a' q1 q2 => hq a' q1 (q2.trans h5))
theorem Knows.nil (a : Act) : Knows a [] := fun p h => by cases h
theorem Knows.cons {a : Act} {K : Kn} {d : Nat} {b : Bool} (h : a.tmps[d]? = some (.bool b)) (k : Knows a K) : Knows a ((d, some b) :: K) := fun p hp => by
 rcases List.mem_cons.1 hp with rfl | hp
 ·exact h
 ·exact k p hp
theorem chain_to {P : Program} {ops : Array Oper} {Q : Exit → Act → World → Prop} {w : World} {a : Act} {l : List Oper} (N d : Nat) (b : Bool) (K : Kn) (hr : (chainRun ops N l K).bind (fun K' => kget K' d) = some (some b)) (h : Knows a K) (hN : N ≤ a.tmps.size)
  (hq : ∀ a' : Act, a'.tmps[d]? = some (.bool b) → a'.defers = a.defers → Q .normal a' w) : wpList P ops Q l a w := by
 obtain ⟨K', h1, h2⟩ := Option.bind_eq_some_iff.1 hr
 exact chain_run l K K' a h1 h hN (fun a' q1 q2 => hq a' (q1 _ (kget_mem h2)) q2)
theorem results_slot {fn : Func} {t : Nat} {a : Array Value} {v : Value} {P : Program} {w : World} (hr : fn.results = #[.tmp t]) (h : a[t]? = some v) : (results fn a).run P w = .ok v w := by
 simp [results, hr, h]
structure Halt (p : Prop) : Prop where mk :: (out : p)
def stopAt (Q : Exit → Act → World → Prop) (N : Act → World → Prop) : Exit → Act → World → Prop
 | .normal, a, w => Halt (N a w)
 | e, a, w => Q e a w
theorem upon_stop {P : Program} {o : Oper} {a : Act} {K K' : Act → World → Prop} {Q : Exit → Act → World → Prop} {N : Act → World → Prop} (hk : ∀ a w, K a w → K' a w) : ∀ r : Result Next, o.upon P a K (stopAt Q N) r → o.upon P a K' Q r := by
 intro r h
 unfold Oper.upon at h ⊢
 split at h
 ·exact hk _ _ h
 ·exact hk _ _ h
 ·exact hk _ _ h
 ·refine h.mono (fun e w' he => ?_)
  cases e with
  | returned v => exact hk _ _ he
  | panicked c => exact he
  | outgrown => obtain ⟨a, w, h⟩ := he; exact ⟨a, w, h⟩
 ·exact Rows.mono h (fun v w' he => hk _ _ he)
 ·exact h
 ·exact h.elim
theorem wpList_stop {P : Program} {ops : Array Oper} {Q : Exit → Act → World → Prop} {l2 : List Oper} : ∀ (l1 : List Oper) (a : Act) (w : World), wpList P ops (stopAt Q (wpList P ops Q l2)) l1 a w → wpList P ops Q (l1 ++ l2) a w
 | [], a, w, h => by
  unfold wpList at h
  exact h.out
 | o :: r, a, w, h => by
  unfold wpList at h
  rw [List.cons_append]
  unfold wpList
  split at h
  ·next hw =>
   rw [if_pos hw]
   rcases h with h | ⟨h1, a', w', h2⟩
   ·exact .inl (upon_stop (fun a w h => wpList_stop r a w h) _ h)
   ·exact .inr ⟨h1, a', w', h2⟩
  ·next hw =>
   rw [if_neg hw]
   exact wpList_stop r _ _ h
theorem wpList_cut {P : Program} {ops : Array Oper} {Q : Exit → Act → World → Prop} {a : Act} {w : World} {l : List Oper} (k : Nat) (h : wpList P ops (stopAt Q (wpList P ops Q (l.drop k))) (l.take k) a w) : wpList P ops Q l a w := by
 have := wpList_stop _ _ _ h
 rwa [List.take_append_drop] at this
theorem with_fin {P : Program} {ops : Array Oper} {Q : Exit → Act → World → Prop} {a : Act} {w : World} {l : List Oper} (Φ : Act → World → Prop) (hf : ∀ a' W, Φ a' W → Q .normal a' W) (h : Aside0C (∀ a' W, Φ a' W → Q .normal a' W) → wpList P ops Q l a w) : wpList P ops Q l a w := h ⟨hf⟩
end Go.Proofs.YtgiefblcckikeaaGreat.M
end

section
/- A message without what its kind does not have: record.bare, the reference's plain (printed by genbare04.py). -/
attribute [local irreducible] Go.wpStill
namespace Go.Proofs.YtgiefblcckikeaaGreat.M
open Go.RowKit Go.Proofs.YtgiefblcckikeaaGreatW.PrintWords Go.Proofs.YtgiefblcckikeaaGreatW.PrintLast Go.Proofs.YtgiefblcckikeaaGreatW.PrintMore Go.Proofs.YtgiefblcckikeaaGreat.G
def zE : EntD := ⟨0, 0, 0, []⟩
def zP : PartD := ⟨0, 0, 0, []⟩
def zM : MsgD := ⟨0, 0, 0, 0, 0, 0, 0, false, [], zE, zP⟩
def isKind (k : Int) : Bool := decide (1 ≤ k) && decide (k ≤ 6)
def bareM (m : MsgD) : MsgD :=
 if m.f0 = 6 then ⟨m.f0, m.f1, m.f2, 0, 0, 0, 0, false, [], m.f9, zP⟩
 else if m.f0 = 1 then ⟨m.f0, m.f1, m.f2, m.f3, m.f4, m.f5, 0, false, [], zE, zP⟩
 else if m.f0 = 2 then ⟨m.f0, m.f1, m.f2, m.f3, 0, 0, 0, m.f7, [], zE, zP⟩
 else if m.f0 = 3 then ⟨m.f0, m.f1, m.f2, m.f3, m.f4, m.f5, m.f6, false, m.f8, zE, zP⟩
 else if m.f0 = 4 then ⟨m.f0, m.f1, m.f2, m.f3, m.f4, 0, 0, m.f7, [], zE, zP⟩
 else ⟨m.f0, m.f1, m.f2, m.f3, m.f4, m.f5, 0, false, [], zE, m.f10⟩
def BareP (w : World) (m : MsgD) (e : Ending) (w' : World) : Prop := ∃ (y : MsgD) (B8 B12 B16 : Option Addr) (d8 d12 d16 : Nat), e = .returned (.tuple #[.agg (msgCells y B8 d8 B12 d12 B16 d16), .bool (isKind m.f0)]) ∧ (isKind m.f0 = true → y = bareM m) ∧ MsgC w' y B8 d8 B12 d12 B16 d16 ∧ Below w.heap.size w w'
theorem Bx.fin {w W : World} {g r T : Nat} {zs cs cs' : Array Value} {P : World → Prop} (h : Bx w g r T zs cs P W) : (W.setRow r cs').heap[r]? = some (.cells cs' T) ∧ P (W.setRow r cs') ∧ Below w.heap.size w (W.setRow r cs') := by
 have hk : KeepS (fun k => k = r ∨ k = g) W (W.setRow r cs') := ⟨rfl, rfl, rfl, by simp, fun i _ hi => setRow_other W r i cs' (fun e => hi (.inl e))⟩
 exact ⟨setRow_heap W r zs cs' T (0, 0) h.g0, h.done hk⟩
theorem bare_start_ (w : World) (m : MsgD) (A8 A12 A16 : Option Addr) (c8 c12 c16 : Nat) : Bx w (w.heap.size + 1 + 1) (w.heap.size + 1) 34 #[.int .i64 0, .int .i64 0, .int .i64 0, .int .i64 0, .int .i64 0, .int .i64 0, .int .i64 0, .bool false, .slice none 0 0, .int .i64 0, .int .i64 0, .int .i64 0, .slice none 0 0, .int .i64 0, .int .i64 0, .int .i64 0, .slice none 0 0] #[.int .i64 m.f0, .int .i64 m.f1, .int .i64 m.f2, .int .i64 0, .int .i64 0, .int .i64 0, .int .i64 0, .bool false, .slice none 0 0, .int .i64 0, .int .i64 0, .int .i64 0, .slice none 0 0, .int .i64 0, .int .i64 0, .int .i64 0, .slice none 0 0] (fun V => MsBox V w.heap.size m A8 c8 A12 c12 A16 c16) (((w.alloc (.cells #[.int .i64 m.f0, .int .i64 m.f1, .int .i64 m.f2, .int .i64 m.f3, .int .i64 m.f4, .int .i64 m.f5, .int .i64 m.f6, .bool m.f7, .slice A8 m.f8.length c8, .int .i64 m.f9.f0, .int .i64 m.f9.f1, .int .i64 m.f9.f2, .slice A12 m.f9.f3.length c12, .int .i64 m.f10.f0, .int .i64 m.f10.f1, .int .i64 m.f10.f2, .slice A16 m.f10.f3.length c16] 34)).alloc (.cells #[.int .i64 0, .int .i64 0, .int .i64 0, .int .i64 0, .int .i64 0, .int .i64 0, .int .i64 0, .bool false, .slice none 0 0, .int .i64 0, .int .i64 0, .int .i64 0, .slice none 0 0, .int .i64 0, .int .i64 0, .int .i64 0, .slice none 0 0] 34)).alloc (.cells #[.int .i64 m.f0, .int .i64 m.f1, .int .i64 m.f2, .int .i64 0, .int .i64 0, .int .i64 0, .int .i64 0, .bool false, .slice none 0 0, .int .i64 0, .int .i64 0, .int .i64 0, .slice none 0 0, .int .i64 0, .int .i64 0, .int .i64 0, .slice none 0 0] 34)) := by
 have z1 : (w.alloc (.cells #[.int .i64 m.f0, .int .i64 m.f1, .int .i64 m.f2, .int .i64 m.f3, .int .i64 m.f4, .int .i64 m.f5, .int .i64 m.f6, .bool m.f7, .slice A8 m.f8.length c8, .int .i64 m.f9.f0, .int .i64 m.f9.f1, .int .i64 m.f9.f2, .slice A12 m.f9.f3.length c12, .int .i64 m.f10.f0, .int .i64 m.f10.f1, .int .i64 m.f10.f2, .slice A16 m.f10.f3.length c16] 34)).heap.size = w.heap.size + 1 := by simp
 have z2 : ((w.alloc (.cells #[.int .i64 m.f0, .int .i64 m.f1, .int .i64 m.f2, .int .i64 m.f3, .int .i64 m.f4, .int .i64 m.f5, .int .i64 m.f6, .bool m.f7, .slice A8 m.f8.length c8, .int .i64 m.f9.f0, .int .i64 m.f9.f1, .int .i64 m.f9.f2, .slice A12 m.f9.f3.length c12, .int .i64 m.f10.f0, .int .i64 m.f10.f1, .int .i64 m.f10.f2, .slice A16 m.f10.f3.length c16] 34)).alloc (.cells #[.int .i64 0, .int .i64 0, .int .i64 0, .int .i64 0, .int .i64 0, .int .i64 0, .int .i64 0, .bool false, .slice none 0 0, .int .i64 0, .int .i64 0, .int .i64 0, .slice none 0 0, .int .i64 0, .int .i64 0, .int .i64 0, .slice none 0 0] 34)).heap.size = w.heap.size + 2 := by simp
 have z3 : (((w.alloc (.cells #[.int .i64 m.f0, .int .i64 m.f1, .int .i64 m.f2, .int .i64 m.f3, .int .i64 m.f4, .int .i64 m.f5, .int .i64 m.f6, .bool m.f7, .slice A8 m.f8.length c8, .int .i64 m.f9.f0, .int .i64 m.f9.f1, .int .i64 m.f9.f2, .slice A12 m.f9.f3.length c12, .int .i64 m.f10.f0, .int .i64 m.f10.f1, .int .i64 m.f10.f2, .slice A16 m.f10.f3.length c16] 34)).alloc (.cells #[.int .i64 0, .int .i64 0, .int .i64 0, .int .i64 0, .int .i64 0, .int .i64 0, .int .i64 0, .bool false, .slice none 0 0, .int .i64 0, .int .i64 0, .int .i64 0, .slice none 0 0, .int .i64 0, .int .i64 0, .int .i64 0, .slice none 0 0] 34)).alloc (.cells #[.int .i64 m.f0, .int .i64 m.f1, .int .i64 m.f2, .int .i64 0, .int .i64 0, .int .i64 0, .int .i64 0, .bool false, .slice none 0 0, .int .i64 0, .int .i64 0, .int .i64 0, .slice none 0 0, .int .i64 0, .int .i64 0, .int .i64 0, .slice none 0 0] 34)).heap.size = w.heap.size + 3 := by simp
 obtain ⟨u1, h1⟩ : ∃ u, w.alloc (.cells #[.int .i64 m.f0, .int .i64 m.f1, .int .i64 m.f2, .int .i64 m.f3, .int .i64 m.f4, .int .i64 m.f5, .int .i64 m.f6, .bool m.f7, .slice A8 m.f8.length c8, .int .i64 m.f9.f0, .int .i64 m.f9.f1, .int .i64 m.f9.f2, .slice A12 m.f9.f3.length c12, .int .i64 m.f10.f0, .int .i64 m.f10.f1, .int .i64 m.f10.f2, .slice A16 m.f10.f3.length c16] 34) = u := ⟨_, rfl⟩
 have b1 := (Below.refl _ w).alloc (Nat.le_refl _) (.cells #[.int .i64 m.f0, .int .i64 m.f1, .int .i64 m.f2, .int .i64 m.f3, .int .i64 m.f4, .int .i64 m.f5, .int .i64 m.f6, .bool m.f7, .slice A8 m.f8.length c8, .int .i64 m.f9.f0, .int .i64 m.f9.f1, .int .i64 m.f9.f2, .slice A12 m.f9.f3.length c12, .int .i64 m.f10.f0, .int .i64 m.f10.f1, .int .i64 m.f10.f2, .slice A16 m.f10.f3.length c16] 34)
 have x1 := heap_alloc_new w (.cells #[.int .i64 m.f0, .int .i64 m.f1, .int .i64 m.f2, .int .i64 m.f3, .int .i64 m.f4, .int .i64 m.f5, .int .i64 m.f6, .bool m.f7, .slice A8 m.f8.length c8, .int .i64 m.f9.f0, .int .i64 m.f9.f1, .int .i64 m.f9.f2, .slice A12 m.f9.f3.length c12, .int .i64 m.f10.f0, .int .i64 m.f10.f1, .int .i64 m.f10.f2, .slice A16 m.f10.f3.length c16] 34)
 rw [h1] at b1 x1 z1 z2 z3 ⊢
 obtain ⟨u2, h2⟩ : ∃ u, u1.alloc (.cells #[.int .i64 0, .int .i64 0, .int .i64 0, .int .i64 0, .int .i64 0, .int .i64 0, .int .i64 0, .bool false, .slice none 0 0, .int .i64 0, .int .i64 0, .int .i64 0, .slice none 0 0, .int .i64 0, .int .i64 0, .int .i64 0, .slice none 0 0] 34) = u := ⟨_, rfl⟩
 have b2 := (Below.refl _ u1).alloc (Nat.le_refl _) (.cells #[.int .i64 0, .int .i64 0, .int .i64 0, .int .i64 0, .int .i64 0, .int .i64 0, .int .i64 0, .bool false, .slice none 0 0, .int .i64 0, .int .i64 0, .int .i64 0, .slice none 0 0, .int .i64 0, .int .i64 0, .int .i64 0, .slice none 0 0] 34)
 have x2 := heap_alloc_new u1 (.cells #[.int .i64 0, .int .i64 0, .int .i64 0, .int .i64 0, .int .i64 0, .int .i64 0, .int .i64 0, .bool false, .slice none 0 0, .int .i64 0, .int .i64 0, .int .i64 0, .slice none 0 0, .int .i64 0, .int .i64 0, .int .i64 0, .slice none 0 0] 34)
 rw [h2] at b2 x2 z2 z3 ⊢
 have b3 := (Below.refl _ u2).alloc (Nat.le_refl _) (.cells #[.int .i64 m.f0, .int .i64 m.f1, .int .i64 m.f2, .int .i64 0, .int .i64 0, .int .i64 0, .int .i64 0, .bool false, .slice none 0 0, .int .i64 0, .int .i64 0, .int .i64 0, .slice none 0 0, .int .i64 0, .int .i64 0, .int .i64 0, .slice none 0 0] 34)
 have x3 := heap_alloc_new u2 (.cells #[.int .i64 m.f0, .int .i64 m.f1, .int .i64 m.f2, .int .i64 0, .int .i64 0, .int .i64 0, .int .i64 0, .bool false, .slice none 0 0, .int .i64 0, .int .i64 0, .int .i64 0, .slice none 0 0, .int .i64 0, .int .i64 0, .int .i64 0, .slice none 0 0] 34)
 rw [z1] at x2
 rw [z2] at x3
 have hx : MsBox (u2.alloc (.cells #[.int .i64 m.f0, .int .i64 m.f1, .int .i64 m.f2, .int .i64 0, .int .i64 0, .int .i64 0, .int .i64 0, .bool false, .slice none 0 0, .int .i64 0, .int .i64 0, .int .i64 0, .slice none 0 0, .int .i64 0, .int .i64 0, .int .i64 0, .slice none 0 0] 34)) w.heap.size m A8 c8 A12 c12 A16 c16 := (b3.block _ (by omega)).trans ((b2.block _ (by omega)).trans x1)
 exact ⟨(b3.block _ (by omega)).trans x2, x3, b1.trans ((b2.mono (by omega)).trans (b3.mono (by omega))), by omega, by omega, by omega, by omega, by omega, fun V _ hV => (hV w.heap.size (by omega) (by omega)).trans hx⟩
theorem bare_start (w : World) (m : MsgD) (A8 A12 A16 : Option Addr) (c8 c12 c16 : Nat) : ∃ w0, w0 = (((w.alloc (.cells #[.int .i64 m.f0, .int .i64 m.f1, .int .i64 m.f2, .int .i64 m.f3, .int .i64 m.f4, .int .i64 m.f5, .int .i64 m.f6, .bool m.f7, .slice A8 m.f8.length c8, .int .i64 m.f9.f0, .int .i64 m.f9.f1, .int .i64 m.f9.f2, .slice A12 m.f9.f3.length c12, .int .i64 m.f10.f0, .int .i64 m.f10.f1, .int .i64 m.f10.f2, .slice A16 m.f10.f3.length c16] 34)).alloc (.cells #[.int .i64 0, .int .i64 0, .int .i64 0, .int .i64 0, .int .i64 0, .int .i64 0, .int .i64 0, .bool false, .slice none 0 0, .int .i64 0, .int .i64 0, .int .i64 0, .slice none 0 0, .int .i64 0, .int .i64 0, .int .i64 0, .slice none 0 0] 34)).alloc (.cells #[.int .i64 m.f0, .int .i64 m.f1, .int .i64 m.f2, .int .i64 0, .int .i64 0, .int .i64 0, .int .i64 0, .bool false, .slice none 0 0, .int .i64 0, .int .i64 0, .int .i64 0, .slice none 0 0, .int .i64 0, .int .i64 0, .int .i64 0, .slice none 0 0] 34)) ∧ Bx w (w.heap.size + 1 + 1) (w.heap.size + 1) 34 #[.int .i64 0, .int .i64 0, .int .i64 0, .int .i64 0, .int .i64 0, .int .i64 0, .int .i64 0, .bool false, .slice none 0 0, .int .i64 0, .int .i64 0, .int .i64 0, .slice none 0 0, .int .i64 0, .int .i64 0, .int .i64 0, .slice none 0 0] #[.int .i64 m.f0, .int .i64 m.f1, .int .i64 m.f2, .int .i64 0, .int .i64 0, .int .i64 0, .int .i64 0, .bool false, .slice none 0 0, .int .i64 0, .int .i64 0, .int .i64 0, .slice none 0 0, .int .i64 0, .int .i64 0, .int .i64 0, .slice none 0 0] (fun V => MsBox V w.heap.size m A8 c8 A12 c12 A16 c16) w0 := ⟨_, rfl, bare_start_ w m A8 A12 A16 c8 c12 c16⟩
set_option maxHeartbeats 4000000 in
theorem bare_k6 {w : World} (m : MsgD) {A8 A12 A16 : Option Addr} {c8 c12 c16 : Nat} (hm : MsgC w m A8 c8 A12 c12 A16 c16) (hk : m.f0 = 6) :
  Calls Tryz.prog 87 #[.agg #[.int .i64 m.f0, .int .i64 m.f1, .int .i64 m.f2, .int .i64 m.f3, .int .i64 m.f4, .int .i64 m.f5, .int .i64 m.f6, .bool m.f7, .slice A8 m.f8.length c8, .int .i64 m.f9.f0, .int .i64 m.f9.f1, .int .i64 m.f9.f2, .slice A12 m.f9.f3.length c12, .int .i64 m.f10.f0, .int .i64 m.f10.f1, .int .i64 m.f10.f2, .slice A16 m.f10.f3.length c16]] w fun e w' => BareP w m e w' := by
 have t6 : (m.f0 == 6) = true := by rw [hk]; rfl
 have t1 : (m.f0 == 1) = false := by rw [hk]; rfl
 have t2 : (m.f0 == 2) = false := by rw [hk]; rfl
 have t3 : (m.f0 == 3) = false := by rw [hk]; rfl
 have t4 : (m.f0 == 4) = false := by rw [hk]; rfl
 have t5 : (m.f0 == 5) = false := by rw [hk]; rfl
 have HK := Lib.hid hk
 clear hk
 have HM := Lib.hid hm
 clear hm
 go_enter Tryz.func87, Tryz.ntmps87
 go_upto_region 2 with fail
 obtain ⟨w0, hw, hT⟩ := bare_start w m A8 A12 A16 c8 c12 c16
 rw [← hw]
 have HT0 := Lib.hid hT
 clear hw hT
 obtain ⟨g, hg⟩ : ∃ g, w.heap.size = g := ⟨_, rfl⟩
 have HG := Lib.hid hg
 rw [hg] at HT0 ⊢
 clear hg
 obtain ⟨a0, a1, a2, a3, a4, a5, a6, a7, a8, a9, a10, a11, a12, a13, a14, a15, a16⟩ := MsBox.cell HT0.out.h.now
 have b9 : w0.cell? ⟨g + 1 + 1, 9, none⟩ = some (.int .i64 0) := (blk_cell HT0.out.y 9).trans rfl
 have z9 : w0.frozen? ⟨g + 1 + 1, 9, none⟩ = false := blk_frozen HT0.out.y 9
 have b10 : w0.cell? ⟨g + 1 + 1, 10, none⟩ = some (.int .i64 0) := (blk_cell HT0.out.y 10).trans rfl
 have z10 : w0.frozen? ⟨g + 1 + 1, 10, none⟩ = false := blk_frozen HT0.out.y 10
 have b11 : w0.cell? ⟨g + 1 + 1, 11, none⟩ = some (.int .i64 0) := (blk_cell HT0.out.y 11).trans rfl
 have z11 : w0.frozen? ⟨g + 1 + 1, 11, none⟩ = false := blk_frozen HT0.out.y 11
 have b12 : w0.cell? ⟨g + 1 + 1, 12, none⟩ = some (.slice none 0 0) := (blk_cell HT0.out.y 12).trans rfl
 have z12 : w0.frozen? ⟨g + 1 + 1, 12, none⟩ = false := blk_frozen HT0.out.y 12
 have hne : g + 1 + 1 ≠ g := by omega
 have hne2 : g ≠ g + 1 + 1 := by omega
 go_upto_region 4 with fail
 have hT : Bx w (g + 1 + 1) (g + 1) 34 #[.int .i64 0, .int .i64 0, .int .i64 0, .int .i64 0, .int .i64 0, .int .i64 0, .int .i64 0, .bool false, .slice none 0 0, .int .i64 0, .int .i64 0, .int .i64 0, .slice none 0 0, .int .i64 0, .int .i64 0, .int .i64 0, .slice none 0 0] #[.int .i64 m.f0, .int .i64 m.f1, .int .i64 m.f2, .int .i64 0, .int .i64 0, .int .i64 0, .int .i64 0, .bool false, .slice none 0 0, .int .i64 m.f9.f0, .int .i64 m.f9.f1, .int .i64 m.f9.f2, .slice A12 m.f9.f3.length c12, .int .i64 0, .int .i64 0, .int .i64 0, .slice none 0 0] _ _ := ((((HT0.out.put 9 (.int .i64 m.f9.f0)).put 10 (.int .i64 m.f9.f1)).put 11 (.int .i64 m.f9.f2)).put 12 (.slice A12 m.f9.f3.length c12))
 have HT1 := Lib.hid hT
 clear hT
 obtain ⟨w1, hw⟩ : ∃ w1, ((((w0.setCell ⟨g + 1 + 1, 9, none⟩ (.int .i64 m.f9.f0)).setCell ⟨g + 1 + 1, 10, none⟩ (.int .i64 m.f9.f1)).setCell ⟨g + 1 + 1, 11, none⟩ (.int .i64 m.f9.f2)).setCell ⟨g + 1 + 1, 12, none⟩ (.slice A12 m.f9.f3.length c12)) = w1 := ⟨_, rfl⟩
 rw [hw] at HT1 ⊢
 clear hw
 refine wp_region_list ?_
 refine wpList_load_row rfl 34 (.tmp 4) rfl (g + 1 + 1) rfl 34 _ (0, 0) _ HT1.out.y Tryz.underlying34 rfl (by kernel_rfl) ?_
 refine wpList_store_row rfl 34 (.tmp 2) (.tmp 18) rfl (g + 1) _ rfl rfl 34 _ HT1.out.g0 (by kernel_rfl) rfl (by simp [Value.oneCell']) ?_
 go_wp2_with fail
 refine bodyPost_ret (results_ct rfl _ _ (g + 1) 34 _ (0, 0) _ rfl HT1.out.fin.1 Tryz.underlying34 rfl (by kernel_rfl)) rfl ?_
 have hik : isKind m.f0 = true := by rw [HK.out]; rfl
 refine ⟨⟨m.f0, m.f1, m.f2, 0, 0, 0, 0, false, [], m.f9, zP⟩, none, A12, none, 0, c12, 0, by rw [hik]; rfl, fun _ => by unfold bareM; simp [HK.out], ⟨Nat.le_refl 0, Kd.C_nil _ _, HM.out.l12, Kd.C_below HM.out.g12 HT1.out.fin.2.2, Nat.le_refl 0, Kd.C_nil _ _⟩, HT1.out.fin.2.2⟩
set_option maxHeartbeats 4000000 in
theorem bare_k1 {w : World} (m : MsgD) {A8 A12 A16 : Option Addr} {c8 c12 c16 : Nat} (hm : MsgC w m A8 c8 A12 c12 A16 c16) (hk : m.f0 = 1) :
  Calls Tryz.prog 87 #[.agg #[.int .i64 m.f0, .int .i64 m.f1, .int .i64 m.f2, .int .i64 m.f3, .int .i64 m.f4, .int .i64 m.f5, .int .i64 m.f6, .bool m.f7, .slice A8 m.f8.length c8, .int .i64 m.f9.f0, .int .i64 m.f9.f1, .int .i64 m.f9.f2, .slice A12 m.f9.f3.length c12, .int .i64 m.f10.f0, .int .i64 m.f10.f1, .int .i64 m.f10.f2, .slice A16 m.f10.f3.length c16]] w fun e w' => BareP w m e w' := by
 have t6 : (m.f0 == 6) = false := by rw [hk]; rfl
 have t1 : (m.f0 == 1) = true := by rw [hk]; rfl
 have t2 : (m.f0 == 2) = false := by rw [hk]; rfl
 have t3 : (m.f0 == 3) = false := by rw [hk]; rfl
 have t4 : (m.f0 == 4) = false := by rw [hk]; rfl
 have t5 : (m.f0 == 5) = false := by rw [hk]; rfl
 have HK := Lib.hid hk
 clear hk
 have HM := Lib.hid hm
 clear hm
 go_enter Tryz.func87, Tryz.ntmps87
 go_upto_region 2 with fail
 obtain ⟨w0, hw, hT⟩ := bare_start w m A8 A12 A16 c8 c12 c16
 rw [← hw]
 have HT0 := Lib.hid hT
 clear hw hT
 obtain ⟨g, hg⟩ : ∃ g, w.heap.size = g := ⟨_, rfl⟩
 have HG := Lib.hid hg
 rw [hg] at HT0 ⊢
 clear hg
 obtain ⟨a0, a1, a2, a3, a4, a5, a6, a7, a8, a9, a10, a11, a12, a13, a14, a15, a16⟩ := MsBox.cell HT0.out.h.now
 have b3 : w0.cell? ⟨g + 1 + 1, 3, none⟩ = some (.int .i64 0) := (blk_cell HT0.out.y 3).trans rfl
 have z3 : w0.frozen? ⟨g + 1 + 1, 3, none⟩ = false := blk_frozen HT0.out.y 3
 have b4 : w0.cell? ⟨g + 1 + 1, 4, none⟩ = some (.int .i64 0) := (blk_cell HT0.out.y 4).trans rfl
 have z4 : w0.frozen? ⟨g + 1 + 1, 4, none⟩ = false := blk_frozen HT0.out.y 4
 have b5 : w0.cell? ⟨g + 1 + 1, 5, none⟩ = some (.int .i64 0) := (blk_cell HT0.out.y 5).trans rfl
 have z5 : w0.frozen? ⟨g + 1 + 1, 5, none⟩ = false := blk_frozen HT0.out.y 5
 have hne : g + 1 + 1 ≠ g := by omega
 have hne2 : g ≠ g + 1 + 1 := by omega
 go_wp2_with fail
 go_region
 go_upto_region 18 with fail
 have hT : Bx w (g + 1 + 1) (g + 1) 34 #[.int .i64 0, .int .i64 0, .int .i64 0, .int .i64 0, .int .i64 0, .int .i64 0, .int .i64 0, .bool false, .slice none 0 0, .int .i64 0, .int .i64 0, .int .i64 0, .slice none 0 0, .int .i64 0, .int .i64 0, .int .i64 0, .slice none 0 0] #[.int .i64 m.f0, .int .i64 m.f1, .int .i64 m.f2, .int .i64 m.f3, .int .i64 m.f4, .int .i64 m.f5, .int .i64 0, .bool false, .slice none 0 0, .int .i64 0, .int .i64 0, .int .i64 0, .slice none 0 0, .int .i64 0, .int .i64 0, .int .i64 0, .slice none 0 0] _ _ := (((HT0.out.put 3 (.int .i64 m.f3)).put 4 (.int .i64 m.f4)).put 5 (.int .i64 m.f5)).drew
 have HT1 := Lib.hid hT
 clear hT
 obtain ⟨w1, hw⟩ : ∃ w1, (((w0.setCell ⟨g + 1 + 1, 3, none⟩ (.int .i64 m.f3)).setCell ⟨g + 1 + 1, 4, none⟩ (.int .i64 m.f4)).setCell ⟨g + 1 + 1, 5, none⟩ (.int .i64 m.f5)).drew = w1 := ⟨_, rfl⟩
 rw [hw] at HT1 ⊢
 clear hw
 refine wp_region_list ?_
 refine wpList_load_row rfl 34 (.tmp 4) rfl (g + 1 + 1) rfl 34 _ (0, 0) _ HT1.out.y Tryz.underlying34 rfl (by kernel_rfl) ?_
 refine wpList_store_row rfl 34 (.tmp 2) (.tmp 71) rfl (g + 1) _ rfl rfl 34 _ HT1.out.g0 (by kernel_rfl) rfl (by simp [Value.oneCell']) ?_
 go_wp2_with fail
 refine bodyPost_ret (results_ct rfl _ _ (g + 1) 34 _ (0, 0) _ rfl HT1.out.fin.1 Tryz.underlying34 rfl (by kernel_rfl)) rfl ?_
 have hik : isKind m.f0 = true := by rw [HK.out]; rfl
 refine ⟨⟨m.f0, m.f1, m.f2, m.f3, m.f4, m.f5, 0, false, [], zE, zP⟩, none, none, none, 0, 0, 0, by rw [hik]; rfl, fun _ => by unfold bareM; simp [HK.out], ⟨Nat.le_refl 0, Kd.C_nil _ _, Nat.le_refl 0, Kd.C_nil _ _, Nat.le_refl 0, Kd.C_nil _ _⟩, HT1.out.fin.2.2⟩
set_option maxHeartbeats 4000000 in
theorem bare_k2 {w : World} (m : MsgD) {A8 A12 A16 : Option Addr} {c8 c12 c16 : Nat} (hm : MsgC w m A8 c8 A12 c12 A16 c16) (hk : m.f0 = 2) :
  Calls Tryz.prog 87 #[.agg #[.int .i64 m.f0, .int .i64 m.f1, .int .i64 m.f2, .int .i64 m.f3, .int .i64 m.f4, .int .i64 m.f5, .int .i64 m.f6, .bool m.f7, .slice A8 m.f8.length c8, .int .i64 m.f9.f0, .int .i64 m.f9.f1, .int .i64 m.f9.f2, .slice A12 m.f9.f3.length c12, .int .i64 m.f10.f0, .int .i64 m.f10.f1, .int .i64 m.f10.f2, .slice A16 m.f10.f3.length c16]] w fun e w' => BareP w m e w' := by
 have t6 : (m.f0 == 6) = false := by rw [hk]; rfl
 have t1 : (m.f0 == 1) = false := by rw [hk]; rfl
 have t2 : (m.f0 == 2) = true := by rw [hk]; rfl
 have t3 : (m.f0 == 3) = false := by rw [hk]; rfl
 have t4 : (m.f0 == 4) = false := by rw [hk]; rfl
 have t5 : (m.f0 == 5) = false := by rw [hk]; rfl
 have HK := Lib.hid hk
 clear hk
 have HM := Lib.hid hm
 clear hm
 go_enter Tryz.func87, Tryz.ntmps87
 go_upto_region 2 with fail
 obtain ⟨w0, hw, hT⟩ := bare_start w m A8 A12 A16 c8 c12 c16
 rw [← hw]
 have HT0 := Lib.hid hT
 clear hw hT
 obtain ⟨g, hg⟩ : ∃ g, w.heap.size = g := ⟨_, rfl⟩
 have HG := Lib.hid hg
 rw [hg] at HT0 ⊢
 clear hg
 obtain ⟨a0, a1, a2, a3, a4, a5, a6, a7, a8, a9, a10, a11, a12, a13, a14, a15, a16⟩ := MsBox.cell HT0.out.h.now
 have b3 : w0.cell? ⟨g + 1 + 1, 3, none⟩ = some (.int .i64 0) := (blk_cell HT0.out.y 3).trans rfl
 have z3 : w0.frozen? ⟨g + 1 + 1, 3, none⟩ = false := blk_frozen HT0.out.y 3
 have b7 : w0.cell? ⟨g + 1 + 1, 7, none⟩ = some (.bool false) := (blk_cell HT0.out.y 7).trans rfl
 have z7 : w0.frozen? ⟨g + 1 + 1, 7, none⟩ = false := blk_frozen HT0.out.y 7
 have hne : g + 1 + 1 ≠ g := by omega
 have hne2 : g ≠ g + 1 + 1 := by omega
 go_upto_region 18 with fail
 have hT : Bx w (g + 1 + 1) (g + 1) 34 #[.int .i64 0, .int .i64 0, .int .i64 0, .int .i64 0, .int .i64 0, .int .i64 0, .int .i64 0, .bool false, .slice none 0 0, .int .i64 0, .int .i64 0, .int .i64 0, .slice none 0 0, .int .i64 0, .int .i64 0, .int .i64 0, .slice none 0 0] #[.int .i64 m.f0, .int .i64 m.f1, .int .i64 m.f2, .int .i64 m.f3, .int .i64 0, .int .i64 0, .int .i64 0, .bool m.f7, .slice none 0 0, .int .i64 0, .int .i64 0, .int .i64 0, .slice none 0 0, .int .i64 0, .int .i64 0, .int .i64 0, .slice none 0 0] _ _ := ((HT0.out.put 3 (.int .i64 m.f3)).put 7 (.bool m.f7))
 have HT1 := Lib.hid hT
 clear hT
 obtain ⟨w1, hw⟩ : ∃ w1, ((w0.setCell ⟨g + 1 + 1, 3, none⟩ (.int .i64 m.f3)).setCell ⟨g + 1 + 1, 7, none⟩ (.bool m.f7)) = w1 := ⟨_, rfl⟩
 rw [hw] at HT1 ⊢
 clear hw
 refine wp_region_list ?_
 refine wpList_load_row rfl 34 (.tmp 4) rfl (g + 1 + 1) rfl 34 _ (0, 0) _ HT1.out.y Tryz.underlying34 rfl (by kernel_rfl) ?_
 refine wpList_store_row rfl 34 (.tmp 2) (.tmp 71) rfl (g + 1) _ rfl rfl 34 _ HT1.out.g0 (by kernel_rfl) rfl (by simp [Value.oneCell']) ?_
 go_wp2_with fail
 refine bodyPost_ret (results_ct rfl _ _ (g + 1) 34 _ (0, 0) _ rfl HT1.out.fin.1 Tryz.underlying34 rfl (by kernel_rfl)) rfl ?_
 have hik : isKind m.f0 = true := by rw [HK.out]; rfl
 refine ⟨⟨m.f0, m.f1, m.f2, m.f3, 0, 0, 0, m.f7, [], zE, zP⟩, none, none, none, 0, 0, 0, by rw [hik]; rfl, fun _ => by unfold bareM; simp [HK.out], ⟨Nat.le_refl 0, Kd.C_nil _ _, Nat.le_refl 0, Kd.C_nil _ _, Nat.le_refl 0, Kd.C_nil _ _⟩, HT1.out.fin.2.2⟩
set_option maxHeartbeats 4000000 in
theorem bare_k3 {w : World} (m : MsgD) {A8 A12 A16 : Option Addr} {c8 c12 c16 : Nat} (hm : MsgC w m A8 c8 A12 c12 A16 c16) (hk : m.f0 = 3) :
  Calls Tryz.prog 87 #[.agg #[.int .i64 m.f0, .int .i64 m.f1, .int .i64 m.f2, .int .i64 m.f3, .int .i64 m.f4, .int .i64 m.f5, .int .i64 m.f6, .bool m.f7, .slice A8 m.f8.length c8, .int .i64 m.f9.f0, .int .i64 m.f9.f1, .int .i64 m.f9.f2, .slice A12 m.f9.f3.length c12, .int .i64 m.f10.f0, .int .i64 m.f10.f1, .int .i64 m.f10.f2, .slice A16 m.f10.f3.length c16]] w fun e w' => BareP w m e w' := by
 have t6 : (m.f0 == 6) = false := by rw [hk]; rfl
 have t1 : (m.f0 == 1) = false := by rw [hk]; rfl
 have t2 : (m.f0 == 2) = false := by rw [hk]; rfl
 have t3 : (m.f0 == 3) = true := by rw [hk]; rfl
 have t4 : (m.f0 == 4) = false := by rw [hk]; rfl
 have t5 : (m.f0 == 5) = false := by rw [hk]; rfl
 have HK := Lib.hid hk
 clear hk
 have HM := Lib.hid hm
 clear hm
 go_enter Tryz.func87, Tryz.ntmps87
 go_upto_region 2 with fail
 obtain ⟨w0, hw, hT⟩ := bare_start w m A8 A12 A16 c8 c12 c16
 rw [← hw]
 have HT0 := Lib.hid hT
 clear hw hT
 obtain ⟨g, hg⟩ : ∃ g, w.heap.size = g := ⟨_, rfl⟩
 have HG := Lib.hid hg
 rw [hg] at HT0 ⊢
 clear hg
 obtain ⟨a0, a1, a2, a3, a4, a5, a6, a7, a8, a9, a10, a11, a12, a13, a14, a15, a16⟩ := MsBox.cell HT0.out.h.now
 have b3 : w0.cell? ⟨g + 1 + 1, 3, none⟩ = some (.int .i64 0) := (blk_cell HT0.out.y 3).trans rfl
 have z3 : w0.frozen? ⟨g + 1 + 1, 3, none⟩ = false := blk_frozen HT0.out.y 3
 have b4 : w0.cell? ⟨g + 1 + 1, 4, none⟩ = some (.int .i64 0) := (blk_cell HT0.out.y 4).trans rfl
 have z4 : w0.frozen? ⟨g + 1 + 1, 4, none⟩ = false := blk_frozen HT0.out.y 4
 have b5 : w0.cell? ⟨g + 1 + 1, 5, none⟩ = some (.int .i64 0) := (blk_cell HT0.out.y 5).trans rfl
 have z5 : w0.frozen? ⟨g + 1 + 1, 5, none⟩ = false := blk_frozen HT0.out.y 5
 have b6 : w0.cell? ⟨g + 1 + 1, 6, none⟩ = some (.int .i64 0) := (blk_cell HT0.out.y 6).trans rfl
 have z6 : w0.frozen? ⟨g + 1 + 1, 6, none⟩ = false := blk_frozen HT0.out.y 6
 have b8 : w0.cell? ⟨g + 1 + 1, 8, none⟩ = some (.slice none 0 0) := (blk_cell HT0.out.y 8).trans rfl
 have z8 : w0.frozen? ⟨g + 1 + 1, 8, none⟩ = false := blk_frozen HT0.out.y 8
 have hne : g + 1 + 1 ≠ g := by omega
 have hne2 : g ≠ g + 1 + 1 := by omega
 go_wp2_with fail
 go_region
 go_upto_region 18 with fail
 have hT : Bx w (g + 1 + 1) (g + 1) 34 #[.int .i64 0, .int .i64 0, .int .i64 0, .int .i64 0, .int .i64 0, .int .i64 0, .int .i64 0, .bool false, .slice none 0 0, .int .i64 0, .int .i64 0, .int .i64 0, .slice none 0 0, .int .i64 0, .int .i64 0, .int .i64 0, .slice none 0 0] #[.int .i64 m.f0, .int .i64 m.f1, .int .i64 m.f2, .int .i64 m.f3, .int .i64 m.f4, .int .i64 m.f5, .int .i64 m.f6, .bool false, .slice A8 m.f8.length c8, .int .i64 0, .int .i64 0, .int .i64 0, .slice none 0 0, .int .i64 0, .int .i64 0, .int .i64 0, .slice none 0 0] _ _ := (((((HT0.out.put 3 (.int .i64 m.f3)).put 4 (.int .i64 m.f4)).put 5 (.int .i64 m.f5)).put 6 (.int .i64 m.f6)).put 8 (.slice A8 m.f8.length c8)).drew
 have HT1 := Lib.hid hT
 clear hT
 obtain ⟨w1, hw⟩ : ∃ w1, (((((w0.setCell ⟨g + 1 + 1, 3, none⟩ (.int .i64 m.f3)).setCell ⟨g + 1 + 1, 4, none⟩ (.int .i64 m.f4)).setCell ⟨g + 1 + 1, 5, none⟩ (.int .i64 m.f5)).setCell ⟨g + 1 + 1, 6, none⟩ (.int .i64 m.f6)).setCell ⟨g + 1 + 1, 8, none⟩ (.slice A8 m.f8.length c8)).drew = w1 := ⟨_, rfl⟩
 rw [hw] at HT1 ⊢
 clear hw
 refine wp_region_list ?_
 refine wpList_load_row rfl 34 (.tmp 4) rfl (g + 1 + 1) rfl 34 _ (0, 0) _ HT1.out.y Tryz.underlying34 rfl (by kernel_rfl) ?_
 refine wpList_store_row rfl 34 (.tmp 2) (.tmp 71) rfl (g + 1) _ rfl rfl 34 _ HT1.out.g0 (by kernel_rfl) rfl (by simp [Value.oneCell']) ?_
 go_wp2_with fail
 refine bodyPost_ret (results_ct rfl _ _ (g + 1) 34 _ (0, 0) _ rfl HT1.out.fin.1 Tryz.underlying34 rfl (by kernel_rfl)) rfl ?_
 have hik : isKind m.f0 = true := by rw [HK.out]; rfl
 refine ⟨⟨m.f0, m.f1, m.f2, m.f3, m.f4, m.f5, m.f6, false, m.f8, zE, zP⟩, A8, none, none, c8, 0, 0, by rw [hik]; rfl, fun _ => by unfold bareM; simp [HK.out], ⟨HM.out.l8, Kd.C_below HM.out.g8 HT1.out.fin.2.2, Nat.le_refl 0, Kd.C_nil _ _, Nat.le_refl 0, Kd.C_nil _ _⟩, HT1.out.fin.2.2⟩
set_option maxHeartbeats 4000000 in
theorem bare_k4 {w : World} (m : MsgD) {A8 A12 A16 : Option Addr} {c8 c12 c16 : Nat} (hm : MsgC w m A8 c8 A12 c12 A16 c16) (hk : m.f0 = 4) :
  Calls Tryz.prog 87 #[.agg #[.int .i64 m.f0, .int .i64 m.f1, .int .i64 m.f2, .int .i64 m.f3, .int .i64 m.f4, .int .i64 m.f5, .int .i64 m.f6, .bool m.f7, .slice A8 m.f8.length c8, .int .i64 m.f9.f0, .int .i64 m.f9.f1, .int .i64 m.f9.f2, .slice A12 m.f9.f3.length c12, .int .i64 m.f10.f0, .int .i64 m.f10.f1, .int .i64 m.f10.f2, .slice A16 m.f10.f3.length c16]] w fun e w' => BareP w m e w' := by
 have t6 : (m.f0 == 6) = false := by rw [hk]; rfl
 have t1 : (m.f0 == 1) = false := by rw [hk]; rfl
 have t2 : (m.f0 == 2) = false := by rw [hk]; rfl
 have t3 : (m.f0 == 3) = false := by rw [hk]; rfl
 have t4 : (m.f0 == 4) = true := by rw [hk]; rfl
 have t5 : (m.f0 == 5) = false := by rw [hk]; rfl
 have HK := Lib.hid hk
 clear hk
 have HM := Lib.hid hm
 clear hm
 go_enter Tryz.func87, Tryz.ntmps87
 go_upto_region 2 with fail
 obtain ⟨w0, hw, hT⟩ := bare_start w m A8 A12 A16 c8 c12 c16
 rw [← hw]
 have HT0 := Lib.hid hT
 clear hw hT
 obtain ⟨g, hg⟩ : ∃ g, w.heap.size = g := ⟨_, rfl⟩
 have HG := Lib.hid hg
 rw [hg] at HT0 ⊢
 clear hg
 obtain ⟨a0, a1, a2, a3, a4, a5, a6, a7, a8, a9, a10, a11, a12, a13, a14, a15, a16⟩ := MsBox.cell HT0.out.h.now
 have b3 : w0.cell? ⟨g + 1 + 1, 3, none⟩ = some (.int .i64 0) := (blk_cell HT0.out.y 3).trans rfl
 have z3 : w0.frozen? ⟨g + 1 + 1, 3, none⟩ = false := blk_frozen HT0.out.y 3
 have b7 : w0.cell? ⟨g + 1 + 1, 7, none⟩ = some (.bool false) := (blk_cell HT0.out.y 7).trans rfl
 have z7 : w0.frozen? ⟨g + 1 + 1, 7, none⟩ = false := blk_frozen HT0.out.y 7
 have b4 : w0.cell? ⟨g + 1 + 1, 4, none⟩ = some (.int .i64 0) := (blk_cell HT0.out.y 4).trans rfl
 have z4 : w0.frozen? ⟨g + 1 + 1, 4, none⟩ = false := blk_frozen HT0.out.y 4
 have hne : g + 1 + 1 ≠ g := by omega
 have hne2 : g ≠ g + 1 + 1 := by omega
 go_wp2_with fail
 go_region
 go_upto_region 18 with fail
 have hT : Bx w (g + 1 + 1) (g + 1) 34 #[.int .i64 0, .int .i64 0, .int .i64 0, .int .i64 0, .int .i64 0, .int .i64 0, .int .i64 0, .bool false, .slice none 0 0, .int .i64 0, .int .i64 0, .int .i64 0, .slice none 0 0, .int .i64 0, .int .i64 0, .int .i64 0, .slice none 0 0] #[.int .i64 m.f0, .int .i64 m.f1, .int .i64 m.f2, .int .i64 m.f3, .int .i64 m.f4, .int .i64 0, .int .i64 0, .bool m.f7, .slice none 0 0, .int .i64 0, .int .i64 0, .int .i64 0, .slice none 0 0, .int .i64 0, .int .i64 0, .int .i64 0, .slice none 0 0] _ _ := (((HT0.out.put 3 (.int .i64 m.f3)).put 7 (.bool m.f7)).put 4 (.int .i64 m.f4)).drew
 have HT1 := Lib.hid hT
 clear hT
 obtain ⟨w1, hw⟩ : ∃ w1, (((w0.setCell ⟨g + 1 + 1, 3, none⟩ (.int .i64 m.f3)).setCell ⟨g + 1 + 1, 7, none⟩ (.bool m.f7)).setCell ⟨g + 1 + 1, 4, none⟩ (.int .i64 m.f4)).drew = w1 := ⟨_, rfl⟩
 rw [hw] at HT1 ⊢
 clear hw
 refine wp_region_list ?_
 refine wpList_load_row rfl 34 (.tmp 4) rfl (g + 1 + 1) rfl 34 _ (0, 0) _ HT1.out.y Tryz.underlying34 rfl (by kernel_rfl) ?_
 refine wpList_store_row rfl 34 (.tmp 2) (.tmp 71) rfl (g + 1) _ rfl rfl 34 _ HT1.out.g0 (by kernel_rfl) rfl (by simp [Value.oneCell']) ?_
 go_wp2_with fail
 refine bodyPost_ret (results_ct rfl _ _ (g + 1) 34 _ (0, 0) _ rfl HT1.out.fin.1 Tryz.underlying34 rfl (by kernel_rfl)) rfl ?_
 have hik : isKind m.f0 = true := by rw [HK.out]; rfl
 refine ⟨⟨m.f0, m.f1, m.f2, m.f3, m.f4, 0, 0, m.f7, [], zE, zP⟩, none, none, none, 0, 0, 0, by rw [hik]; rfl, fun _ => by unfold bareM; simp [HK.out], ⟨Nat.le_refl 0, Kd.C_nil _ _, Nat.le_refl 0, Kd.C_nil _ _, Nat.le_refl 0, Kd.C_nil _ _⟩, HT1.out.fin.2.2⟩
set_option maxHeartbeats 4000000 in
theorem bare_k5 {w : World} (m : MsgD) {A8 A12 A16 : Option Addr} {c8 c12 c16 : Nat} (hm : MsgC w m A8 c8 A12 c12 A16 c16) (hk : m.f0 = 5) :
  Calls Tryz.prog 87 #[.agg #[.int .i64 m.f0, .int .i64 m.f1, .int .i64 m.f2, .int .i64 m.f3, .int .i64 m.f4, .int .i64 m.f5, .int .i64 m.f6, .bool m.f7, .slice A8 m.f8.length c8, .int .i64 m.f9.f0, .int .i64 m.f9.f1, .int .i64 m.f9.f2, .slice A12 m.f9.f3.length c12, .int .i64 m.f10.f0, .int .i64 m.f10.f1, .int .i64 m.f10.f2, .slice A16 m.f10.f3.length c16]] w fun e w' => BareP w m e w' := by
 have t6 : (m.f0 == 6) = false := by rw [hk]; rfl
 have t1 : (m.f0 == 1) = false := by rw [hk]; rfl
 have t2 : (m.f0 == 2) = false := by rw [hk]; rfl
 have t3 : (m.f0 == 3) = false := by rw [hk]; rfl
 have t4 : (m.f0 == 4) = false := by rw [hk]; rfl
 have t5 : (m.f0 == 5) = true := by rw [hk]; rfl
 have HK := Lib.hid hk
 clear hk
 have HM := Lib.hid hm
 clear hm
 go_enter Tryz.func87, Tryz.ntmps87
 go_upto_region 2 with fail
 obtain ⟨w0, hw, hT⟩ := bare_start w m A8 A12 A16 c8 c12 c16
 rw [← hw]
 have HT0 := Lib.hid hT
 clear hw hT
 obtain ⟨g, hg⟩ : ∃ g, w.heap.size = g := ⟨_, rfl⟩
 have HG := Lib.hid hg
 rw [hg] at HT0 ⊢
 clear hg
 obtain ⟨a0, a1, a2, a3, a4, a5, a6, a7, a8, a9, a10, a11, a12, a13, a14, a15, a16⟩ := MsBox.cell HT0.out.h.now
 have b3 : w0.cell? ⟨g + 1 + 1, 3, none⟩ = some (.int .i64 0) := (blk_cell HT0.out.y 3).trans rfl
 have z3 : w0.frozen? ⟨g + 1 + 1, 3, none⟩ = false := blk_frozen HT0.out.y 3
 have b4 : w0.cell? ⟨g + 1 + 1, 4, none⟩ = some (.int .i64 0) := (blk_cell HT0.out.y 4).trans rfl
 have z4 : w0.frozen? ⟨g + 1 + 1, 4, none⟩ = false := blk_frozen HT0.out.y 4
 have b5 : w0.cell? ⟨g + 1 + 1, 5, none⟩ = some (.int .i64 0) := (blk_cell HT0.out.y 5).trans rfl
 have z5 : w0.frozen? ⟨g + 1 + 1, 5, none⟩ = false := blk_frozen HT0.out.y 5
 have b13 : w0.cell? ⟨g + 1 + 1, 13, none⟩ = some (.int .i64 0) := (blk_cell HT0.out.y 13).trans rfl
 have z13 : w0.frozen? ⟨g + 1 + 1, 13, none⟩ = false := blk_frozen HT0.out.y 13
 have b14 : w0.cell? ⟨g + 1 + 1, 14, none⟩ = some (.int .i64 0) := (blk_cell HT0.out.y 14).trans rfl
 have z14 : w0.frozen? ⟨g + 1 + 1, 14, none⟩ = false := blk_frozen HT0.out.y 14
 have b15 : w0.cell? ⟨g + 1 + 1, 15, none⟩ = some (.int .i64 0) := (blk_cell HT0.out.y 15).trans rfl
 have z15 : w0.frozen? ⟨g + 1 + 1, 15, none⟩ = false := blk_frozen HT0.out.y 15
 have b16 : w0.cell? ⟨g + 1 + 1, 16, none⟩ = some (.slice none 0 0) := (blk_cell HT0.out.y 16).trans rfl
 have z16 : w0.frozen? ⟨g + 1 + 1, 16, none⟩ = false := blk_frozen HT0.out.y 16
 have hne : g + 1 + 1 ≠ g := by omega
 have hne2 : g ≠ g + 1 + 1 := by omega
 go_wp2_with fail
 go_region
 go_upto_region 18 with fail
 have hT : Bx w (g + 1 + 1) (g + 1) 34 #[.int .i64 0, .int .i64 0, .int .i64 0, .int .i64 0, .int .i64 0, .int .i64 0, .int .i64 0, .bool false, .slice none 0 0, .int .i64 0, .int .i64 0, .int .i64 0, .slice none 0 0, .int .i64 0, .int .i64 0, .int .i64 0, .slice none 0 0] #[.int .i64 m.f0, .int .i64 m.f1, .int .i64 m.f2, .int .i64 m.f3, .int .i64 m.f4, .int .i64 m.f5, .int .i64 0, .bool false, .slice none 0 0, .int .i64 0, .int .i64 0, .int .i64 0, .slice none 0 0, .int .i64 m.f10.f0, .int .i64 m.f10.f1, .int .i64 m.f10.f2, .slice A16 m.f10.f3.length c16] _ _ := (((((((HT0.out.put 3 (.int .i64 m.f3)).put 4 (.int .i64 m.f4)).put 5 (.int .i64 m.f5)).put 13 (.int .i64 m.f10.f0)).put 14 (.int .i64 m.f10.f1)).put 15 (.int .i64 m.f10.f2)).put 16 (.slice A16 m.f10.f3.length c16)).drew
 have HT1 := Lib.hid hT
 clear hT
 obtain ⟨w1, hw⟩ : ∃ w1, (((((((w0.setCell ⟨g + 1 + 1, 3, none⟩ (.int .i64 m.f3)).setCell ⟨g + 1 + 1, 4, none⟩ (.int .i64 m.f4)).setCell ⟨g + 1 + 1, 5, none⟩ (.int .i64 m.f5)).setCell ⟨g + 1 + 1, 13, none⟩ (.int .i64 m.f10.f0)).setCell ⟨g + 1 + 1, 14, none⟩ (.int .i64 m.f10.f1)).setCell ⟨g + 1 + 1, 15, none⟩ (.int .i64 m.f10.f2)).setCell ⟨g + 1 + 1, 16, none⟩ (.slice A16 m.f10.f3.length c16)).drew = w1 := ⟨_, rfl⟩
 rw [hw] at HT1 ⊢
 clear hw
 refine wp_region_list ?_
 refine wpList_load_row rfl 34 (.tmp 4) rfl (g + 1 + 1) rfl 34 _ (0, 0) _ HT1.out.y Tryz.underlying34 rfl (by kernel_rfl) ?_
 refine wpList_store_row rfl 34 (.tmp 2) (.tmp 71) rfl (g + 1) _ rfl rfl 34 _ HT1.out.g0 (by kernel_rfl) rfl (by simp [Value.oneCell']) ?_
 go_wp2_with fail
 refine bodyPost_ret (results_ct rfl _ _ (g + 1) 34 _ (0, 0) _ rfl HT1.out.fin.1 Tryz.underlying34 rfl (by kernel_rfl)) rfl ?_
 have hik : isKind m.f0 = true := by rw [HK.out]; rfl
 refine ⟨⟨m.f0, m.f1, m.f2, m.f3, m.f4, m.f5, 0, false, [], zE, m.f10⟩, none, none, A16, 0, 0, c16, by rw [hik]; rfl, fun _ => by unfold bareM; simp [HK.out], ⟨Nat.le_refl 0, Kd.C_nil _ _, Nat.le_refl 0, Kd.C_nil _ _, HM.out.l16, Kd.C_below HM.out.g16 HT1.out.fin.2.2⟩, HT1.out.fin.2.2⟩
end Go.Proofs.YtgiefblcckikeaaGreat.M
end

section
/- A message without what its kind does not have: record.bare, the reference's plain (printed by genbare04.py). -/
attribute [local irreducible] Go.wpStill
namespace Go.Proofs.YtgiefblcckikeaaGreat.M
open Go.RowKit Go.Proofs.YtgiefblcckikeaaGreatW.PrintWords Go.Proofs.YtgiefblcckikeaaGreatW.PrintLast Go.Proofs.YtgiefblcckikeaaGreatW.PrintMore Go.Proofs.YtgiefblcckikeaaGreat.G
set_option maxHeartbeats 4000000 in
theorem bare_k0 {w : World} (m : MsgD) {A8 A12 A16 : Option Addr} {c8 c12 c16 : Nat} (hm : MsgC w m A8 c8 A12 c12 A16 c16) (hk : isKind m.f0 = false) :
  Calls Tryz.prog 87 #[.agg #[.int .i64 m.f0, .int .i64 m.f1, .int .i64 m.f2, .int .i64 m.f3, .int .i64 m.f4, .int .i64 m.f5, .int .i64 m.f6, .bool m.f7, .slice A8 m.f8.length c8, .int .i64 m.f9.f0, .int .i64 m.f9.f1, .int .i64 m.f9.f2, .slice A12 m.f9.f3.length c12, .int .i64 m.f10.f0, .int .i64 m.f10.f1, .int .i64 m.f10.f2, .slice A16 m.f10.f3.length c16]] w fun e w' => BareP w m e w' := by
 have t6 : (m.f0 == 6) = false := by rw [beq_eq_false_iff_ne]; intro h; rw [h] at hk; cases hk
 have t1 : (m.f0 == 1) = false := by rw [beq_eq_false_iff_ne]; intro h; rw [h] at hk; cases hk
 have t2 : (m.f0 == 2) = false := by rw [beq_eq_false_iff_ne]; intro h; rw [h] at hk; cases hk
 have t3 : (m.f0 == 3) = false := by rw [beq_eq_false_iff_ne]; intro h; rw [h] at hk; cases hk
 have t4 : (m.f0 == 4) = false := by rw [beq_eq_false_iff_ne]; intro h; rw [h] at hk; cases hk
 have t5 : (m.f0 == 5) = false := by rw [beq_eq_false_iff_ne]; intro h; rw [h] at hk; cases hk
 have HK := Lib.hid hk
 clear hk
 have HM := Lib.hid hm
 clear hm
 go_enter Tryz.func87, Tryz.ntmps87
 go_upto_region 2 with fail
 obtain ⟨w0, hw, hT⟩ := bare_start w m A8 A12 A16 c8 c12 c16
 rw [← hw]
 have HT0 := Lib.hid hT
 clear hw hT
 obtain ⟨g, hg⟩ : ∃ g, w.heap.size = g := ⟨_, rfl⟩
 have HG := Lib.hid hg
 rw [hg] at HT0 ⊢
 clear hg
 obtain ⟨a0, a1, a2, a3, a4, a5, a6, a7, a8, a9, a10, a11, a12, a13, a14, a15, a16⟩ := MsBox.cell HT0.out.h.now
 have b3 : w0.cell? ⟨g + 1 + 1, 3, none⟩ = some (.int .i64 0) := (blk_cell HT0.out.y 3).trans rfl
 have z3 : w0.frozen? ⟨g + 1 + 1, 3, none⟩ = false := blk_frozen HT0.out.y 3
 have hne : g + 1 + 1 ≠ g := by omega
 have hne2 : g ≠ g + 1 + 1 := by omega
 go_upto_region 7 with fail
 have HT1 := Lib.hid (HT0.out.set 3 (.int .i64 m.f3) #[.int .i64 m.f0, .int .i64 m.f1, .int .i64 m.f2, .int .i64 m.f3, .int .i64 0, .int .i64 0, .int .i64 0, .bool false, .slice none 0 0, .int .i64 0, .int .i64 0, .int .i64 0, .slice none 0 0, .int .i64 0, .int .i64 0, .int .i64 0, .slice none 0 0] (blk_put HT0.out.y 3 _ rfl))
 obtain ⟨w1, hw⟩ : ∃ w1, w0.setCell ⟨g + 1 + 1, 3, none⟩ (.int .i64 m.f3) = w1 := ⟨_, rfl⟩
 rw [hw] at HT1 ⊢
 clear hw
 refine wp_region_list ?_
 refine wpList_cut 1 ?_
 simp only [List.take_succ_cons, List.take_zero, List.drop_succ_cons, List.drop_zero]
 go_wp2_with fail
 refine Halt.mk ?_
 refine wpList_store_row rfl 34 (.tmp 2) (.tmp 24) rfl (g + 1) #[.int .i64 0, .int .i64 0, .int .i64 0, .int .i64 0, .int .i64 0, .int .i64 0, .int .i64 0, .bool false, .slice none 0 0, .int .i64 0, .int .i64 0, .int .i64 0, .slice none 0 0, .int .i64 0, .int .i64 0, .int .i64 0, .slice none 0 0] rfl rfl 34 _ HT1.out.g0 (by kernel_rfl) rfl (by simp [Value.oneCell']) ?_
 go_wp2_with fail
 refine bodyPost_ret (results_ct rfl _ _ (g + 1) 34 _ (0, 0) _ rfl HT1.out.fin.1 Tryz.underlying34 rfl (by kernel_rfl)) rfl ?_
 exact ⟨zM, none, none, none, 0, 0, 0, by rw [HK.out]; rfl, fun h => (by rw [HK.out] at h; cases h), ⟨Nat.le_refl 0, Kd.C_nil _ _, Nat.le_refl 0, Kd.C_nil _ _, Nat.le_refl 0, Kd.C_nil _ _⟩, HT1.out.fin.2.2⟩
theorem bare_is {w : World} (m : MsgD) {A8 A12 A16 : Option Addr} {c8 c12 c16 : Nat} (hm : MsgC w m A8 c8 A12 c12 A16 c16) :
  Calls Tryz.prog 87 #[.agg #[.int .i64 m.f0, .int .i64 m.f1, .int .i64 m.f2, .int .i64 m.f3, .int .i64 m.f4, .int .i64 m.f5, .int .i64 m.f6, .bool m.f7, .slice A8 m.f8.length c8, .int .i64 m.f9.f0, .int .i64 m.f9.f1, .int .i64 m.f9.f2, .slice A12 m.f9.f3.length c12, .int .i64 m.f10.f0, .int .i64 m.f10.f1, .int .i64 m.f10.f2, .slice A16 m.f10.f3.length c16]] w fun e w' => BareP w m e w' := by
 cases hk : isKind m.f0 with
 | false => exact bare_k0 m hm hk
 | true =>
  have h2 : 1 ≤ m.f0 ∧ m.f0 ≤ 6 := by
   unfold isKind at hk
   rw [Bool.and_eq_true, decide_eq_true_eq, decide_eq_true_eq] at hk
   exact hk
  by_cases h1 : m.f0 = 1
  ·exact bare_k1 m hm h1
  ·by_cases h3 : m.f0 = 2
   ·exact bare_k2 m hm h3
   ·by_cases h4 : m.f0 = 3
    ·exact bare_k3 m hm h4
    ·by_cases h5 : m.f0 = 4
     ·exact bare_k4 m hm h5
     ·by_cases h6 : m.f0 = 5
      ·exact bare_k5 m hm h6
      ·exact bare_k6 m hm (by omega)
end Go.Proofs.YtgiefblcckikeaaGreat.M
end

section
/- Which termed entries and parts may be (printed by genmaym04.py). -/
attribute [local irreducible] Go.wpStill
namespace Go.Proofs.YtgiefblcckikeaaGreat.M
open Go.RowKit Go.Proofs.YtgiefblcckikeaaGreatW.PrintWords Go.Proofs.YtgiefblcckikeaaGreatW.PrintLast Go.Proofs.YtgiefblcckikeaaGreatW.PrintMore Go.Proofs.YtgiefblcckikeaaGreat.G
def mayTr (x : TrD) : Bool := inB 0 1099511627776 [x.f0] && mayE x.f1.f0 x.f1.f1 x.f1.f2 x.f1.f3
def mayPt (p : PartD) : Bool := inB 0 1099511627776 [p.f0] && (inB 1 4096 [p.f2] && (inB 0 (p.f2 - 1) [p.f1] && decide ((p.f3.length : Int) ≤ 16384)))
theorem lit_new (w : World) (xs : List Int) (hm : xs.length ≤ 1000) : Below w.heap.size w (w.alloc (.cells (xs.map (Value.int .i64)).toArray 2)) ∧ Kd.C (Kd.int .i64) (w.alloc (.cells (xs.map (Value.int .i64)).toArray 2)) (some ⟨w.heap.size, 0, none⟩) xs.length xs := ⟨(Below.refl _ _).alloc (Nat.le_refl _) _, C_lit w xs hm⟩
set_option maxHeartbeats 1000000 in
theorem termed_is {w : World} (a : TrD) {A : Option Addr} {c : Nat} (ha : Kd.C G.k26 w A a.f1.f3.length a.f1.f3) :
  Calls Tryz.prog 91 #[.agg #[.int .i64 a.f0, .int .i64 a.f1.f0, .int .i64 a.f1.f1, .int .i64 a.f1.f2, .slice A a.f1.f3.length c]] w fun e w' => e = .returned (.bool (mayTr a)) ∧ Below w.heap.size w w' := by
 have hx := heap_alloc_new w (.cells #[.int .i64 a.f0, .int .i64 a.f1.f0, .int .i64 a.f1.f1, .int .i64 a.f1.f2, .slice A a.f1.f3.length c] 63)
 have hb := (Below.refl _ w).alloc (Nat.le_refl _) (.cells #[.int .i64 a.f0, .int .i64 a.f1.f0, .int .i64 a.f1.f1, .int .i64 a.f1.f2, .slice A a.f1.f3.length c] 63)
 have hz : (w.alloc (.cells #[.int .i64 a.f0, .int .i64 a.f1.f0, .int .i64 a.f1.f1, .int .i64 a.f1.f2, .slice A a.f1.f3.length c] 63)).heap.size = w.heap.size + 1 := by simp
 obtain ⟨h1, h2⟩ := lit_new (w.alloc (.cells #[.int .i64 a.f0, .int .i64 a.f1.f0, .int .i64 a.f1.f1, .int .i64 a.f1.f2, .slice A a.f1.f3.length c] 63)) [a.f0] (by simp)
 simp only [List.map_cons, List.map_nil, List.length_cons, List.length_nil, Nat.zero_add] at h1 h2
 rw [hz] at h2
 have hx2 := (h1.block w.heap.size (by omega)).trans hx
 have HB := Lib.hid (hb.trans (h1.mono hb.size)); have HL := Lib.hid h2; have HX := Lib.hid hx2; have HA := Lib.hid (Kd.C_below ha (hb.trans (h1.mono hb.size)))
 obtain ⟨q, hq⟩ : ∃ q, mayTr a = q := ⟨_, rfl⟩
 have HQ := Lib.hid hq
 rw [hq]
 clear hq ha hx hb hz h1 h2 hx2
 go_enter Tryz.func91, Tryz.ntmps91
 go_wp2_with fail
 obtain ⟨w1, hw⟩ : ∃ w1, (w.alloc (.cells #[.int .i64 a.f0, .int .i64 a.f1.f0, .int .i64 a.f1.f1, .int .i64 a.f1.f2, .slice A a.f1.f3.length c] 63)).alloc (.cells #[.int .i64 a.f0] 2) = w1 := ⟨_, rfl⟩
 obtain ⟨g, hg⟩ : ∃ g, w.heap.size = g := ⟨_, rfl⟩
 have HG := Lib.hid hg
 rw [hw] at HB HL HX HA ⊢
 rw [hg] at HL HX ⊢
 clear hw hg
 obtain ⟨b0, hb0⟩ : ∃ b0, inB 0 1099511627776 [a.f0] = b0 := ⟨_, rfl⟩
 have HV := Lib.hid (show q = (b0 && mayE a.f1.f0 a.f1.f1 a.f1.f2 a.f1.f3) by rw [← HQ.out, ← hb0]; rfl)
 have h4 := G.record_count.calls (some ⟨g + 1, 0, none⟩) 1 [a.f0] b0 w1 HL.out (Nat.le_refl _) (by unfold G.record_count.f G.record_between.f; rw [hb0]; rfl)
 clear hb0
 refine h4.mono ?_
 rintro e w2 ⟨rfl, hb⟩
 have HB2 := Lib.hid (HB.out.trans (hb.mono HB.out.size)); have HX2 := Lib.hid ((hb.block g (Array.getElem?_eq_some_iff.1 HX.out).1).trans HX.out); have HA2 := Lib.hid (Kd.C_below HA.out hb)
 clear h4 hb HB HX HA HL
 have c0 : w2.cell? ⟨g, 0, none⟩ = some (.int .i64 a.f0) := (blk_cell HX2.out 0).trans rfl
 have c1 : w2.cell? ⟨g, 1, none⟩ = some (.int .i64 a.f1.f0) := (blk_cell HX2.out 1).trans rfl
 have c2 : w2.cell? ⟨g, 2, none⟩ = some (.int .i64 a.f1.f1) := (blk_cell HX2.out 2).trans rfl
 have c3 : w2.cell? ⟨g, 3, none⟩ = some (.int .i64 a.f1.f2) := (blk_cell HX2.out 3).trans rfl
 have c4 : w2.cell? ⟨g, 4, none⟩ = some (.slice A a.f1.f3.length c) := (blk_cell HX2.out 4).trans rfl
 cases b0 with
 | false =>
  have HW := Lib.hid (show q = false by rw [HV.out]; rfl)
  go_wp2_with fail
  go_ret
  exact ⟨by rw [HW.out]; rfl, HB2.out⟩
 | true =>
  have HW := Lib.hid (show q = mayE a.f1.f0 a.f1.f1 a.f1.f2 a.f1.f3 by rw [HV.out]; rfl)
  go_wp2_with fail
  refine (mayEn_is a.f1.f0 a.f1.f1 a.f1.f2 A c a.f1.f3 w2 HA2.out).mono ?_
  rintro e w3 ⟨rfl, hb⟩
  have HB3 := Lib.hid (HB2.out.trans (hb.mono HB2.out.size))
  clear hb
  go_wp2_with fail
  go_ret
  exact ⟨by rw [HW.out]; rfl, HB3.out⟩
theorem msg1_is {w : World} (a : TrD) {A : Option Addr} {c : Nat} (ha : Kd.C G.k26 w A a.f1.f3.length a.f1.f3) :
  Calls Tryz.prog 90 #[.agg #[.int .i64 a.f0, .int .i64 a.f1.f0, .int .i64 a.f1.f1, .int .i64 a.f1.f2, .slice A a.f1.f3.length c]] w fun e w' => e = .returned (.bool (!mayTr a)) ∧ Below w.heap.size w w' := by
 have HB := Lib.hid (show Below w.heap.size w (w.alloc (.cells #[.int .i64 a.f0, .int .i64 a.f1.f0, .int .i64 a.f1.f1, .int .i64 a.f1.f2, .slice A a.f1.f3.length c] 63)) from (Below.refl _ _).alloc (Nat.le_refl _) _)
 have HA := Lib.hid (Kd.C_below ha HB.out)
 clear ha
 go_enter Tryz.func90, Tryz.ntmps90
 go_wp2_with fail
 refine (termed_is a HA.out).mono ?_
 rintro e w' ⟨rfl, hb⟩
 have HB2 := Lib.hid (HB.out.trans (hb.mono HB.out.size))
 clear hb
 go_wp2_with fail
 go_ret
 exact ⟨by simp, HB2.out⟩
def TrV (l : List TrD) (w : World) (e : Ending) (w' : World) : Prop := ∃ i : Int, e = .returned (.int .i64 i) ∧ (0 ≤ i ↔ l.all mayTr = false) ∧ Below w.heap.size w w'
def TrI (l : List TrD) (w : World) (i : Value) (wr : World) : Prop := ∃ k : Nat, k ≤ l.length ∧ i = .int .i64 k ∧ (l.take k).all mayTr = true ∧ Below w.heap.size w wr
set_option maxHeartbeats 1000000 in
theorem tr_index (A : Option Addr) (c : Nat) (l : List TrD) (w : World) (hr : Kd.C G.k63 w A l.length l) :
  Calls Tryz.prog 146 #[.slice A l.length c, .func (.func 90) #[] #[]] w fun e w' => TrV l w e w' := by
 have hlm : l.length ≤ 9223372036854775807 := hr.2.1
 have HR := Lib.hid hr
 clear hr
 go_enter Tryz.func146, Tryz.ntmps146
 go_wp2_with fail
 go_loopw [8] (fun i wr => TrI l w i wr) (fun i _ => l.length - (intOf i).toNat)
 case atStart => exact ⟨0, Nat.zero_le _, rfl, by simp, Below.refl _ _⟩
 case round =>
  obtain ⟨k, hk, rfl, hin, hb⟩ := hrel
  have HIN := Lib.hid hin; have HBr := Lib.hid hb
  clear hin hb
  by_cases hlt : k < l.length
  ·obtain ⟨x, hx⟩ : ∃ x, l[k]? = some x := ⟨_, List.getElem?_eq_getElem hlt⟩
   obtain ⟨ad, A4, c4, rfl, x0, x1, x2, x3, x4, hl, hX⟩ := tr_get (Kd.C_below HR.out HBr.out) hx
   have HXX := Lib.hid hX
   have HX := Lib.hid (show l.take (k + 1) = l.take k ++ [x] by rw [List.take_add_one, hx]; rfl)
   have HM := Lib.hid (List.mem_of_getElem? hx)
   clear hx hX hl
   go_wp2_with fail
   refine (msg1_is x HXX.out).mono ?_
   rintro e w' ⟨rfl, hb⟩
   have HB2 := Lib.hid (HBr.out.trans (hb.mono HBr.out.size))
   clear hb
   cases ho : mayTr x with
   | false =>
    have HB := Lib.hid (show l.all mayTr = false by rw [List.all_eq_false]; exact ⟨x, HM.out, by rw [ho]; simp⟩)
    clear ho
    go_wp2_with fail
    go_ret
    exact ⟨k, rfl, ⟨fun _ => HB.out, fun _ => by omega⟩, HB2.out⟩
   | true =>
    have HB := Lib.hid (show (l.take (k + 1)).all mayTr = true by rw [HX.out, List.all_append, HIN.out]; simp [ho])
    clear ho
    go_wp2_with fail
    go_roundw
    case rel => exact ⟨k + 1, hlt, by go_num, HB.out, HB2.out⟩
    case measure => simp [intOf]; omega
  ·have HB := Lib.hid (show l.all mayTr = true by have := HIN.out; rwa [List.take_of_length_le (by omega)] at this)
   go_wp2_with fail
   go_ret
   exact ⟨-1, rfl, ⟨fun h => by omega, fun h => by rw [HB.out] at h; cases h⟩, HBr.out⟩
theorem tr_has (A : Option Addr) (c : Nat) (l : List TrD) (w : World) (hr : Kd.C G.k63 w A l.length l) :
  Calls Tryz.prog 89 #[.slice A l.length c, .func (.func 90) #[] #[]] w fun e w' => e = .returned (.bool (!l.all mayTr)) ∧ Below w.heap.size w w' := by
 have H := Lib.hid (tr_index A c l w hr)
 clear hr
 go_enter Tryz.func89, Tryz.ntmps89
 go_wp2_with fail
 refine H.out.mono ?_
 rintro e w' ⟨i, rfl, hi, hb⟩
 have HI := Lib.hid hi; have HB := Lib.hid hb
 clear hi hb
 go_wp2_with fail
 go_ret
 refine ⟨?_, HB.out⟩
 show Ending.returned (.bool (decide (0 ≤ i))) = _
 cases hb : l.all mayTr with
 | true => rw [decide_eq_false (fun h => by have := HI.out.1 h; rw [hb] at this; cases this)]; rfl
 | false => rw [decide_eq_true (HI.out.2 hb)]; rfl
set_option maxHeartbeats 2000000 in
theorem part_is {w : World} (a : PartD) {A : Option Addr} {c : Nat} (hp : isI64 a.f2) (ha : Kd.C (Kd.int .u8) w A a.f3.length a.f3) :
  Calls Tryz.prog 92 #[.agg #[.int .i64 a.f0, .int .i64 a.f1, .int .i64 a.f2, .slice A a.f3.length c]] w fun e w' => e = .returned (.bool (mayPt a)) ∧ Below w.heap.size w w' := by
 have hlm : a.f3.length ≤ 9223372036854775807 := Kd.C_max ha
 have hx := heap_alloc_new w (.cells #[.int .i64 a.f0, .int .i64 a.f1, .int .i64 a.f2, .slice A a.f3.length c] 32)
 have hb := (Below.refl _ w).alloc (Nat.le_refl _) (.cells #[.int .i64 a.f0, .int .i64 a.f1, .int .i64 a.f2, .slice A a.f3.length c] 32)
 have hz : (w.alloc (.cells #[.int .i64 a.f0, .int .i64 a.f1, .int .i64 a.f2, .slice A a.f3.length c] 32)).heap.size = w.heap.size + 1 := by simp
 obtain ⟨h1, h2⟩ := lit_new (w.alloc (.cells #[.int .i64 a.f0, .int .i64 a.f1, .int .i64 a.f2, .slice A a.f3.length c] 32)) [a.f0] (by simp)
 simp only [List.map_cons, List.map_nil, List.length_cons, List.length_nil, Nat.zero_add] at h1 h2
 rw [hz] at h2
 have hx2 := (h1.block w.heap.size (by omega)).trans hx
 have HB1 := Lib.hid (hb.trans (h1.mono hb.size)); have HL := Lib.hid h2; have HX1 := Lib.hid hx2
 obtain ⟨q, hq⟩ : ∃ q, mayPt a = q := ⟨_, rfl⟩
 have HQ := Lib.hid hq
 rw [hq]
 clear hq ha hx hb hz h1 h2 hx2
 go_enter Tryz.func92, Tryz.ntmps92
 go_wp2_with fail
 obtain ⟨w1, hw⟩ : ∃ w1, (w.alloc (.cells #[.int .i64 a.f0, .int .i64 a.f1, .int .i64 a.f2, .slice A a.f3.length c] 32)).alloc (.cells #[.int .i64 a.f0] 2) = w1 := ⟨_, rfl⟩
 obtain ⟨g, hg⟩ : ∃ g, w.heap.size = g := ⟨_, rfl⟩
 have HG := Lib.hid hg
 rw [hw] at HB1 HL HX1 ⊢
 rw [hg] at HL HX1 ⊢
 clear hw hg
 obtain ⟨b0, hb0⟩ : ∃ b0, inB 0 1099511627776 [a.f0] = b0 := ⟨_, rfl⟩
 obtain ⟨b1, hb1⟩ : ∃ b1, inB 1 4096 [a.f2] = b1 := ⟨_, rfl⟩
 obtain ⟨b2, hb2⟩ : ∃ b2, inB 0 (a.f2 - 1) [a.f1] = b2 := ⟨_, rfl⟩
 obtain ⟨b3, hb3⟩ : ∃ b3, decide ((a.f3.length : Int) ≤ 16384) = b3 := ⟨_, rfl⟩
 have HV := Lib.hid (show q = (b0 && (b1 && (b2 && b3))) by rw [← HQ.out, ← hb0, ← hb1, ← hb2, ← hb3]; rfl)
 have HB11 := Lib.hid hb1; have HB22 := Lib.hid hb2; have HPI := Lib.hid hp
 have h4 := G.record_count.calls (some ⟨g + 1, 0, none⟩) 1 [a.f0] b0 w1 HL.out (Nat.le_refl _) (by unfold G.record_count.f G.record_between.f; rw [hb0]; rfl)
 clear hb0 hb1 hb2 hp
 refine h4.mono ?_
 rintro e w2 ⟨rfl, hb⟩
 have HB2 := Lib.hid (HB1.out.trans (hb.mono HB1.out.size)); have HX2 := Lib.hid ((hb.block g (Array.getElem?_eq_some_iff.1 HX1.out).1).trans HX1.out)
 clear h4 hb HB1 HX1 HL
 have c0 : w2.cell? ⟨g, 0, none⟩ = some (.int .i64 a.f0) := (blk_cell HX2.out 0).trans rfl
 have c1 : w2.cell? ⟨g, 1, none⟩ = some (.int .i64 a.f1) := (blk_cell HX2.out 1).trans rfl
 have c2 : w2.cell? ⟨g, 2, none⟩ = some (.int .i64 a.f2) := (blk_cell HX2.out 2).trans rfl
 have c3 : w2.cell? ⟨g, 3, none⟩ = some (.slice A a.f3.length c) := (blk_cell HX2.out 3).trans rfl
 cases b0 with
 | false =>
  have HW := Lib.hid (show q = false by rw [HV.out]; simp)
  go_wp2_with fail
  go_ret
  exact ⟨by rw [HW.out]; rfl, HB2.out⟩
 | true =>
  obtain ⟨h1, h2⟩ := lit_new w2 [a.f2] (by simp)
  simp only [List.map_cons, List.map_nil, List.length_cons, List.length_nil, Nat.zero_add] at h1 h2
  have HLa := Lib.hid h2; have HBa := Lib.hid (HB2.out.trans (h1.mono HB2.out.size)); have HXa := Lib.hid ((h1.block g (Array.getElem?_eq_some_iff.1 HX2.out).1).trans HX2.out)
  clear h1 h2
  go_wp2_with fail
  refine (between_is _ 1 [a.f2] (1) (4096) _ HLa.out).mono ?_
  rw [HB11.out]
  rintro e w3 ⟨rfl, hb⟩
  have HB3 := Lib.hid (HBa.out.trans (hb.mono HBa.out.size)); have HX3 := Lib.hid ((hb.block g (Array.getElem?_eq_some_iff.1 HXa.out).1).trans HXa.out)
  clear hb HLa HBa HXa HB2 HX2 c0 c1 c2 c3
  have c0 : w3.cell? ⟨g, 0, none⟩ = some (.int .i64 a.f0) := (blk_cell HX3.out 0).trans rfl
  have c1 : w3.cell? ⟨g, 1, none⟩ = some (.int .i64 a.f1) := (blk_cell HX3.out 1).trans rfl
  have c2 : w3.cell? ⟨g, 2, none⟩ = some (.int .i64 a.f2) := (blk_cell HX3.out 2).trans rfl
  have c3 : w3.cell? ⟨g, 3, none⟩ = some (.slice A a.f3.length c) := (blk_cell HX3.out 3).trans rfl
  cases b1 with
  | false =>
   have HW := Lib.hid (show q = false by rw [HV.out]; simp)
   go_wp2_with fail
   go_ret
   exact ⟨by rw [HW.out]; rfl, HB3.out⟩
  | true =>
   have hw64 : wrap64 (a.f2 - 1) = a.f2 - 1 := by
    have h9 : 1 ≤ a.f2 ∧ a.f2 ≤ 4096 := by
     have h8 := HB11.out
     unfold inB at h8
     simpa using h8
    unfold wrap64
    omega
   obtain ⟨h1, h2⟩ := lit_new w3 [a.f1] (by simp)
   simp only [List.map_cons, List.map_nil, List.length_cons, List.length_nil, Nat.zero_add] at h1 h2
   have HLa := Lib.hid h2; have HBa := Lib.hid (HB3.out.trans (h1.mono HB3.out.size)); have HXa := Lib.hid ((h1.block g (Array.getElem?_eq_some_iff.1 HX3.out).1).trans HX3.out)
   clear h1 h2
   go_wp2_with fail
   refine (between_is _ 1 [a.f1] (0) (a.f2 - 1) _ HLa.out).mono ?_
   rw [HB22.out]
   rintro e w4 ⟨rfl, hb⟩
   have HB4 := Lib.hid (HBa.out.trans (hb.mono HBa.out.size)); have HX4 := Lib.hid ((hb.block g (Array.getElem?_eq_some_iff.1 HXa.out).1).trans HXa.out)
   clear hb HLa HBa HXa HB3 HX3 c0 c1 c2 c3
   have c0 : w4.cell? ⟨g, 0, none⟩ = some (.int .i64 a.f0) := (blk_cell HX4.out 0).trans rfl
   have c1 : w4.cell? ⟨g, 1, none⟩ = some (.int .i64 a.f1) := (blk_cell HX4.out 1).trans rfl
   have c2 : w4.cell? ⟨g, 2, none⟩ = some (.int .i64 a.f2) := (blk_cell HX4.out 2).trans rfl
   have c3 : w4.cell? ⟨g, 3, none⟩ = some (.slice A a.f3.length c) := (blk_cell HX4.out 3).trans rfl
   cases b2 with
   | false =>
    have HW := Lib.hid (show q = false by rw [HV.out]; simp)
    go_wp2_with fail
    go_ret
    exact ⟨by rw [HW.out]; rfl, HB4.out⟩
   | true =>
    have HW := Lib.hid (show q = b3 by rw [HV.out]; simp)
    go_wp2_with fail
    go_ret
    exact ⟨by rw [HW.out]; rfl, HB4.out⟩
end Go.Proofs.YtgiefblcckikeaaGreat.M
end

section
/- Which messages are the same: record.SameMsg, the reference's SameMsg (printed by gensame04.py). -/
attribute [local irreducible] Go.wpStill
namespace Go.Proofs.YtgiefblcckikeaaGreat.M
open Go.RowKit Go.Proofs.YtgiefblcckikeaaGreatW.PrintWords Go.Proofs.YtgiefblcckikeaaGreatW.PrintLast Go.Proofs.YtgiefblcckikeaaGreatW.PrintMore Go.Proofs.YtgiefblcckikeaaGreat.G
set_option maxHeartbeats 4000000 in
theorem sameMs_is {w : World} (m n : MsgD) {A8 A12 A16 B8 B12 B16 : Option Addr} {c8 c12 c16 d8 d12 d16 : Nat} (hm : MsgC w m A8 c8 A12 c12 A16 c16) (hn : MsgC w n B8 d8 B12 d12 B16 d16) :
  Calls Tryz.prog 88 #[.agg (msgCells m A8 c8 A12 c12 A16 c16), .agg (msgCells n B8 d8 B12 d12 B16 d16)] w fun e w' => e = .returned (.bool (eqMs m n)) ∧ Below w.heap.size w w' := by
 have hb1 : Below w.heap.size w ((w.alloc (.cells (msgCells m A8 c8 A12 c12 A16 c16) 34)).alloc (.cells (msgCells n B8 d8 B12 d12 B16 d16) 34)) := ((Below.refl _ _).alloc (Nat.le_refl _) _).alloc (by simp) _
 have hz1 : (w.alloc (.cells (msgCells m A8 c8 A12 c12 A16 c16) 34)).heap.size = w.heap.size + 1 := by simp
 have hx : MsBox ((w.alloc (.cells (msgCells m A8 c8 A12 c12 A16 c16) 34)).alloc (.cells (msgCells n B8 d8 B12 d12 B16 d16) 34)) w.heap.size m A8 c8 A12 c12 A16 c16 := (((Below.refl _ (w.alloc (.cells (msgCells m A8 c8 A12 c12 A16 c16) 34))).alloc (Nat.le_refl _) _).block w.heap.size (by omega)).trans (heap_alloc_new w _)
 have hy : MsBox ((w.alloc (.cells (msgCells m A8 c8 A12 c12 A16 c16) 34)).alloc (.cells (msgCells n B8 d8 B12 d12 B16 d16) 34)) (w.heap.size + 1) n B8 d8 B12 d12 B16 d16 := by rw [← hz1]; exact heap_alloc_new _ _
 have HB := Lib.hid hb1; have HX := Lib.hid hx; have HY := Lib.hid hy; have HM := Lib.hid (hm.below hb1); have HN := Lib.hid (hn.below hb1)
 clear hm hn hb1 hz1 hx hy
 obtain ⟨r, hr⟩ : ∃ r, eqMs m n = r := ⟨_, rfl⟩
 have HR0 := Lib.hid hr.symm
 rw [hr]
 clear hr
 go_enter Tryz.func88, Tryz.ntmps88
 go_wp2_with fail
 obtain ⟨w1, hw1⟩ : ∃ w1, (w.alloc (.cells (msgCells m A8 c8 A12 c12 A16 c16) 34)).alloc (.cells (msgCells n B8 d8 B12 d12 B16 d16) 34) = w1 := ⟨_, rfl⟩
 obtain ⟨g, hg⟩ : ∃ g, w.heap.size = g := ⟨_, rfl⟩
 try rw [hw1]
 rw [hw1] at HB HX HY HM HN
 rw [hg] at HX HY ⊢
 clear hw1 hg
 obtain ⟨q0, hq0⟩ : ∃ q0 : Bool, (m.f0 == n.f0) = q0 := ⟨_, rfl⟩
 obtain ⟨q1, hq1⟩ : ∃ q1 : Bool, (m.f1 == n.f1) = q1 := ⟨_, rfl⟩
 obtain ⟨q2, hq2⟩ : ∃ q2 : Bool, (m.f2 == n.f2) = q2 := ⟨_, rfl⟩
 obtain ⟨q3, hq3⟩ : ∃ q3 : Bool, (m.f3 == n.f3) = q3 := ⟨_, rfl⟩
 obtain ⟨q4, hq4⟩ : ∃ q4 : Bool, (m.f4 == n.f4) = q4 := ⟨_, rfl⟩
 obtain ⟨q5, hq5⟩ : ∃ q5 : Bool, (m.f5 == n.f5) = q5 := ⟨_, rfl⟩
 obtain ⟨q6, hq6⟩ : ∃ q6 : Bool, (m.f6 == n.f6) = q6 := ⟨_, rfl⟩
 obtain ⟨q7, hq7⟩ : ∃ q7 : Bool, (m.f7 == n.f7) = q7 := ⟨_, rfl⟩
 obtain ⟨q8, hq8⟩ : ∃ q8 : Bool, eqTrs m.f8 n.f8 = q8 := ⟨_, rfl⟩
 obtain ⟨q9, hq9⟩ : ∃ q9 : Bool, eqEn m.f9.f0 m.f9.f1 m.f9.f2 m.f9.f3 n.f9.f0 n.f9.f1 n.f9.f2 n.f9.f3 = q9 := ⟨_, rfl⟩
 obtain ⟨q10, hq10⟩ : ∃ q10 : Bool, eqPt m.f10 n.f10 = q10 := ⟨_, rfl⟩
 have HR := Lib.hid (show r = (q0 && (q1 && (q2 && (q3 && (q4 && (q5 && (q6 && (q7 && (q8 && (q9 && q10)))))))))) by rw [HR0.out, ← hq0, ← hq1, ← hq2, ← hq3, ← hq4, ← hq5, ← hq6, ← hq7, ← hq8, ← hq9, ← hq10]; rfl)
 have HQ8 := Lib.hid hq8; have HQ9 := Lib.hid hq9; have HQ10 := Lib.hid hq10
 clear hq8 hq9 hq10
 refine (eqfuncT_is A8 B8 c8 d8 m.f8 n.f8 w1 HM.out.g8 HN.out.g8).mono ?_
 rw [HQ8.out]
 rintro e w2 ⟨rfl, hb⟩
 have HB2 := Lib.hid (HB.out.trans (hb.mono HB.out.size)); have HX2 := Lib.hid (HX.out.below hb); have HY2 := Lib.hid (HY.out.below hb); have HM2 := Lib.hid (HM.out.below hb); have HN2 := Lib.hid (HN.out.below hb)
 clear hb HB HX HY HM HN
 obtain ⟨a0, a1, a2, a3, a4, a5, a6, a7, a8, a9, a10, a11, a12, a13, a14, a15, a16⟩ := HX2.out.cell
 obtain ⟨b0, b1, b2, b3, b4, b5, b6, b7, b8, b9, b10, b11, b12, b13, b14, b15, b16⟩ := HY2.out.cell
 go_upto_region 2 with fail
 go_cut [6] (fun v wx => v = .bool q10 ∧ Below w2.heap.size w2 wx)
 case first =>
  obtain ⟨p0, hp0⟩ : ∃ p0 : Bool, (m.f10.f0 == n.f10.f0) = p0 := ⟨_, rfl⟩
  obtain ⟨p1, hp1⟩ : ∃ p1 : Bool, (m.f10.f1 == n.f10.f1) = p1 := ⟨_, rfl⟩
  obtain ⟨p2, hp2⟩ : ∃ p2 : Bool, (m.f10.f2 == n.f10.f2) = p2 := ⟨_, rfl⟩
  obtain ⟨p3, hp3⟩ : ∃ p3 : Bool, eqS m.f10.f3 n.f10.f3 = p3 := ⟨_, rfl⟩
  have HP := Lib.hid (show q10 = (p0 && (p1 && (p2 && p3))) by rw [← HQ10.out, ← hp0, ← hp1, ← hp2, ← hp3]; rfl)
  have HP3 := Lib.hid hp3
  clear hp3
  have HBX := Lib.hid (Below.refl w2.heap.size w2)
  cases p0 with
  | false =>
   have HV := Lib.hid (show q10 = false by rw [HP.out]; simp)
   go_wp2_with fail
   go_meet
   exact ⟨by rw [HV.out], HBX.out⟩
  | true =>
   cases p1 with
   | false =>
    have HV := Lib.hid (show q10 = false by rw [HP.out]; simp)
    go_wp2_with fail
    go_meet
    exact ⟨by rw [HV.out], HBX.out⟩
   | true =>
    cases p2 with
    | false =>
     have HV := Lib.hid (show q10 = false by rw [HP.out]; simp)
     go_wp2_with fail
     go_meet
     exact ⟨by rw [HV.out], HBX.out⟩
    | true =>
     go_wp2_with fail
     refine (bEqual_is A16 c16 m.f10.f3 B16 d16 n.f10.f3 HM2.out.g16 HM2.out.l16 HN2.out.g16 HN2.out.l16).mono ?_
     rw [HP3.out]
     rintro e w3 ⟨rfl, hb⟩
     have HBX := Lib.hid hb
     clear hb
     cases p3 with
     | false =>
      have HV := Lib.hid (show q10 = false by rw [HP.out]; simp)
      go_wp2_with fail
      go_meet
      exact ⟨by rw [HV.out], HBX.out⟩
     | true =>
      have HV := Lib.hid (show q10 = true by rw [HP.out]; simp)
      go_wp2_with fail
      go_meet
      exact ⟨by rw [HV.out], HBX.out⟩
 case rest =>
  obtain ⟨rfl, hb⟩ := hcut
  obtain ⟨w3, rfl⟩ : ∃ w3, w3 = wc := ⟨_, rfl⟩
  have HBX := Lib.hid (HB2.out.trans (hb.mono HB2.out.size)); have HX3 := Lib.hid (HX2.out.below hb); have HY3 := Lib.hid (HY2.out.below hb); have HM3 := Lib.hid (HM2.out.below hb); have HN3 := Lib.hid (HN2.out.below hb)
  clear hb a0 a1 a2 a3 a4 a5 a6 a7 a8 a9 a10 a11 a12 a13 a14 a15 a16 b0 b1 b2 b3 b4 b5 b6 b7 b8 b9 b10 b11 b12 b13 b14 b15 b16 HB2 HX2 HY2 HM2 HN2 HR0 HQ10
  obtain ⟨a0, a1, a2, a3, a4, a5, a6, a7, a8, a9, a10, a11, a12, a13, a14, a15, a16⟩ := HX3.out.cell
  obtain ⟨b0, b1, b2, b3, b4, b5, b6, b7, b8, b9, b10, b11, b12, b13, b14, b15, b16⟩ := HY3.out.cell
  go_upto_region 3 with fail
  refine wp_region_list ?_
  refine with_fin (fun a' W => a'.tmps[4]? = some (.bool r) ∧ a'.defers = [] ∧ Below w.heap.size w W) (fun a' W h => ?_) (fun HF => ?_)
  ·obtain ⟨h1, h2, h3⟩ := h
   refine ‹∀ (a : Act) (w : World), Code.wp Tryz.prog Code.ret _ a w → _› _ _ ?_
   exact wp_ret (bodyPost_ret (v := .bool r) (results_slot rfl h1) h2 ⟨rfl, h3⟩)
  simp only [List.append_eq, List.cons_append, List.nil_append, List.take_succ_cons, List.take_zero, List.drop_succ_cons, List.drop_zero]
  cases q8 with
  | false => exact chain_to 113 4 false [(5, some false)] (by kernel_rfl) (Knows.cons rfl (Knows.nil _)) (Nat.le_refl 113) (fun a' h1 h2 => HF.out a' _ ⟨by rw [h1, HR.out]; simp, h2, HBX.out⟩)
  | true =>
   cases q10 with
   | false => exact chain_to 113 4 false [(5, some true), (6, some false)] (by kernel_rfl) (Knows.cons rfl (Knows.cons rfl (Knows.nil _))) (Nat.le_refl 113) (fun a' h1 h2 => HF.out a' _ ⟨by rw [h1, HR.out]; simp, h2, HBX.out⟩)
   | true =>
    refine wpList_cut 10 ?_
    simp only [List.append_eq, List.cons_append, List.nil_append, List.take_succ_cons, List.take_zero, List.drop_succ_cons, List.drop_zero]
    go_wp2_with fail
    refine (sameEn_is m.f9.f0 m.f9.f1 m.f9.f2 A12 c12 m.f9.f3 n.f9.f0 n.f9.f1 n.f9.f2 B12 d12 n.f9.f3 w3 HM3.out.g12 HN3.out.g12).mono ?_
    rw [HQ9.out]
    rintro e w4 ⟨rfl, hb⟩
    have HBY := Lib.hid (HBX.out.trans (hb.mono HBX.out.size)); have HX4 := Lib.hid (HX3.out.below hb); have HY4 := Lib.hid (HY3.out.below hb)
    clear hb HBX HX3 HY3 a0 a1 a2 a3 a4 a5 a6 a7 a8 a9 a10 a11 a12 a13 a14 a15 a16 b0 b1 b2 b3 b4 b5 b6 b7 b8 b9 b10 b11 b12 b13 b14 b15 b16
    obtain ⟨a0, a1, a2, a3, a4, a5, a6, a7, a8, a9, a10, a11, a12, a13, a14, a15, a16⟩ := HX4.out.cell
    obtain ⟨b0, b1, b2, b3, b4, b5, b6, b7, b8, b9, b10, b11, b12, b13, b14, b15, b16⟩ := HY4.out.cell
    go_wp2_with fail
    refine Halt.mk ?_
    cases q9 with
    | false => exact chain_to 113 4 false [(50, some true), (55, some false)] (by kernel_rfl) (Knows.cons rfl (Knows.cons rfl (Knows.nil _))) (Nat.le_refl 113) (fun a' h1 h2 => HF.out a' _ ⟨by rw [h1, HR.out]; simp, h2, HBY.out⟩)
    | true =>
     refine wpList_cut 7 ?_
     simp only [List.append_eq, List.cons_append, List.nil_append, List.take_succ_cons, List.take_zero, List.drop_succ_cons, List.drop_zero]
     go_wp2_with fail
     refine Halt.mk ?_
     cases q0 with
     | false => exact chain_to 113 4 false [(57, some true), (62, some false)] (by kernel_rfl) (Knows.cons rfl (Knows.cons rfl (Knows.nil _))) (Nat.le_refl 113) (fun a' h1 h2 => HF.out a' _ ⟨by rw [h1, HR.out]; simp, h2, HBY.out⟩)
     | true =>
      refine wpList_cut 7 ?_
      simp only [List.append_eq, List.cons_append, List.nil_append, List.take_succ_cons, List.take_zero, List.drop_succ_cons, List.drop_zero]
      go_wp2_with fail
      refine Halt.mk ?_
      cases q1 with
      | false => exact chain_to 113 4 false [(64, some true), (69, some false)] (by kernel_rfl) (Knows.cons rfl (Knows.cons rfl (Knows.nil _))) (Nat.le_refl 113) (fun a' h1 h2 => HF.out a' _ ⟨by rw [h1, HR.out]; simp, h2, HBY.out⟩)
      | true =>
       refine wpList_cut 7 ?_
       simp only [List.append_eq, List.cons_append, List.nil_append, List.take_succ_cons, List.take_zero, List.drop_succ_cons, List.drop_zero]
       go_wp2_with fail
       refine Halt.mk ?_
       cases q2 with
       | false => exact chain_to 113 4 false [(71, some true), (76, some false)] (by kernel_rfl) (Knows.cons rfl (Knows.cons rfl (Knows.nil _))) (Nat.le_refl 113) (fun a' h1 h2 => HF.out a' _ ⟨by rw [h1, HR.out]; simp, h2, HBY.out⟩)
       | true =>
        refine wpList_cut 7 ?_
        simp only [List.append_eq, List.cons_append, List.nil_append, List.take_succ_cons, List.take_zero, List.drop_succ_cons, List.drop_zero]
        go_wp2_with fail
        refine Halt.mk ?_
        cases q3 with
        | false => exact chain_to 113 4 false [(78, some true), (83, some false)] (by kernel_rfl) (Knows.cons rfl (Knows.cons rfl (Knows.nil _))) (Nat.le_refl 113) (fun a' h1 h2 => HF.out a' _ ⟨by rw [h1, HR.out]; simp, h2, HBY.out⟩)
        | true =>
         refine wpList_cut 7 ?_
         simp only [List.append_eq, List.cons_append, List.nil_append, List.take_succ_cons, List.take_zero, List.drop_succ_cons, List.drop_zero]
         go_wp2_with fail
         refine Halt.mk ?_
         cases q4 with
         | false => exact chain_to 113 4 false [(85, some true), (90, some false)] (by kernel_rfl) (Knows.cons rfl (Knows.cons rfl (Knows.nil _))) (Nat.le_refl 113) (fun a' h1 h2 => HF.out a' _ ⟨by rw [h1, HR.out]; simp, h2, HBY.out⟩)
         | true =>
          refine wpList_cut 7 ?_
          simp only [List.append_eq, List.cons_append, List.nil_append, List.take_succ_cons, List.take_zero, List.drop_succ_cons, List.drop_zero]
          go_wp2_with fail
          refine Halt.mk ?_
          cases q5 with
          | false => exact chain_to 113 4 false [(92, some true), (97, some false)] (by kernel_rfl) (Knows.cons rfl (Knows.cons rfl (Knows.nil _))) (Nat.le_refl 113) (fun a' h1 h2 => HF.out a' _ ⟨by rw [h1, HR.out]; simp, h2, HBY.out⟩)
          | true =>
           refine wpList_cut 7 ?_
           simp only [List.append_eq, List.cons_append, List.nil_append, List.take_succ_cons, List.take_zero, List.drop_succ_cons, List.drop_zero]
           go_wp2_with fail
           refine Halt.mk ?_
           cases q6 with
           | false => exact chain_to 113 4 false [(99, some true), (104, some false)] (by kernel_rfl) (Knows.cons rfl (Knows.cons rfl (Knows.nil _))) (Nat.le_refl 113) (fun a' h1 h2 => HF.out a' _ ⟨by rw [h1, HR.out]; simp, h2, HBY.out⟩)
           | true =>
            refine wpList_cut 7 ?_
            simp only [List.append_eq, List.cons_append, List.nil_append, List.take_succ_cons, List.take_zero, List.drop_succ_cons, List.drop_zero]
            go_wp2_with fail
            refine Halt.mk ?_
            cases q7 with
            | false => exact chain_to 113 4 false [(106, some true), (111, some false)] (by kernel_rfl) (Knows.cons rfl (Knows.cons rfl (Knows.nil _))) (Nat.le_refl 113) (fun a' h1 h2 => HF.out a' _ ⟨by rw [h1, HR.out]; simp, h2, HBY.out⟩)
            | true => exact chain_to 113 4 true [(106, some true), (111, some true)] (by kernel_rfl) (Knows.cons rfl (Knows.cons rfl (Knows.nil _))) (Nat.le_refl 113) (fun a' h1 h2 => HF.out a' _ ⟨by rw [h1, HR.out]; simp, h2, HBY.out⟩)
end Go.Proofs.YtgiefblcckikeaaGreat.M
end
