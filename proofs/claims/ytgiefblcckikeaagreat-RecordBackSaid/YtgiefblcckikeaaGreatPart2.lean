/- RecordBackSaid: contracts of the functions that the law goes through, put together in build order (part 3 of 7). -/
import Derived.Test.YtgiefblcckikeaaGreatPart1
import Derived.Lib.SmallJoins
import Derived.Lib.Hide
import Derived.Test.YtgiefblcckikeaaGreatRows
import Derived.WalkKit
import Derived.ProofKit
import Derived.OpenShut
import Derived.ShutString
import Derived.ChangeOld
import Derived.Below
import Derived.SizedLaws
import Derived.Deep.CondSized
set_option linter.unusedVariables false
set_option linter.unusedSimpArgs false
set_option maxRecDepth 100000
section
-- Written by a program of this session's (wip/gprint.py over the kit's printer).
namespace Go.Proofs.YtgiefblcckikeaaGreat.G
open Go.RowKit Go.Proofs.YtgiefblcckikeaaGreatW.PrintWords Go.Proofs.YtgiefblcckikeaaGreatW.PrintLast Go.Proofs.YtgiefblcckikeaaGreatW.PrintMore
attribute [local go_sem] max2_int min2_int max_two min_two max_three min_three max_four min_four   -- for this text's walks alone
def trivetref04_Less.f (a0_0 : Int) (a0_1 : Int) (a1_0 : Int) (a1_1 : Int) : Option (Bool) := if a0_0 < a1_0 then (some true) else (if a0_0 = a1_0 then (some (decide (a0_1 < a1_1))) else (some false))
set_option maxHeartbeats 8000000 in
set_option maxRecDepth 100000 in
theorem trivetref04_Less.calls (a0_0 : Int) (a0_1 : Int) (a1_0 : Int) (a1_1 : Int) (r : Bool) (w : World) (h : trivetref04_Less.f a0_0 a0_1 a1_0 a1_1 = some r) :
  Calls Tryz.prog 80 #[.agg #[.int .i32 a0_0, .int .i64 a0_1], .agg #[.int .i32 a1_0, .int .i64 a1_1]] w fun e w' => e = .returned (.bool r) ∧ Below w.heap.size w w' := by
 have hu101 := Tryz.underlying101
 have HB := Aside0.mk (Below.refl w.heap.size w)
 have H : (if a0_0 < a1_0 then (some true) else (if a0_0 = a1_0 then (some (decide (a0_1 < a1_1))) else (some false))) = some r := h
 clear h
 by_cases c3 : a0_0 < a1_0
 ·rw [if_pos c3] at H
  have c3b0 : decide (a0_0 < a1_0) = true := decide_eq_true c3
  clear c3
  obtain rfl := Option.some.inj H
  go_enter Tryz.func80, Tryz.ntmps80
  go_wp2_with (first | ((with_reducible refine gate_dst (N := 2) rfl ?_); refine box_event ?hg (N := 2) ?hd (cs := #[.int .i32 a0_0, .int .i64 a0_1]) (t := 101) ?hr ?_; (case hd => rfl); (case hg => rfl); (case hr => first | (go_simp; done) | (go_simp; rfl)); intro gb175 hg w4 hbox hb; have n0_ := Aside0.mk (below_step (stB HB.out) hb); have n1_ := Aside0.mk (hbox); have n2_ := Aside0.mk ((by rw [hg]; exact (below_size (stB HB.out)) : w.heap.size ≤ gb175)); have n3_ := Aside0.mk ((by rw [hg]; exact (below_size (stB HB.out)) : w.heap.size ≤ gb175)); clear HB; have HB := n0_; have BK175 := n1_; have GW175 := n2_; have GE175 := n3_; clear n0_ n1_ n2_ n3_; clear hb hbox hg) | ((with_reducible refine gate_dst (N := 3) rfl ?_); refine box_event ?hg (N := 3) ?hd (cs := #[.int .i32 a1_0, .int .i64 a1_1]) (t := 101) ?hr ?_; (case hd => rfl); (case hg => rfl); (case hr => first | (go_simp; done) | (go_simp; rfl)); intro gb176 hg w5 hbox hb; have n0_ := Aside0.mk (blk_below (g := gb175) (o := .cells #[.int .i32 a0_0, .int .i64 a0_1] 101 (0, 0)) (stK BK175.out) hb); have n1_ := Aside0.mk (below_step (by repeat (first | (with_reducible first | exact HB.out | apply below_alloc | apply pw_below_drewN | apply below_drew1 | refine below_set ?_ GE175.out) | exact HB.out)) hb); have n2_ := Aside0.mk (hbox); have n3_ := Aside0.mk ((by rw [hg]; exact (below_size (by repeat (first | (with_reducible first | exact HB.out | apply below_alloc | apply pw_below_drewN | apply below_drew1 | refine below_set ?_ GE175.out) | exact HB.out))) : w.heap.size ≤ gb176)); have n4_ := Aside0.mk ((by rw [hg]; exact (below_size (by repeat (first | (with_reducible first | exact HB.out | apply below_alloc | apply pw_below_drewN | apply below_drew1 | refine below_set ?_ GE175.out) | exact HB.out))) : w.heap.size ≤ gb176)); have n5_ := Aside0.mk ((by rw [hg]; exact Nat.ne_of_lt (blk_lt (g := gb175) (o := .cells #[.int .i32 a0_0, .int .i64 a0_1] 101 (0, 0)) (stK BK175.out)) : gb175 ≠ gb176)); have n6_ := Aside0.mk ((by rw [hg]; exact Nat.ne_of_gt (blk_lt (g := gb175) (o := .cells #[.int .i32 a0_0, .int .i64 a0_1] 101 (0, 0)) (stK BK175.out)) : gb176 ≠ gb175)); clear BK175; clear HB; have BK175 := n0_; have HB := n1_; have BK176 := n2_; have GW176 := n3_; have GE176 := n4_; have NB175_176 := n5_; have NB176_175 := n6_; clear n0_ n1_ n2_ n3_ n4_ n5_ n6_; clear hb hbox hg; have hnb6 := NB175_176.out; have hnc6 := NB176_175.out; obtain ⟨hcz7_0, hcz7_1⟩ := bc2 BK175.out; obtain ⟨hfz7_0, hfz7_1⟩ := bf2 BK175.out; obtain ⟨hcz8_0, hcz8_1⟩ := bc2 BK176.out; obtain ⟨hfz8_0, hfz8_1⟩ := bf2 BK176.out))
  go_ret
  exact ⟨by first | rfl | (simp [errW_none, errW_some] <;> rfl) | (simp [*, errW_none, errW_some] <;> rfl), by repeat (first | (with_reducible first | exact HB.out | apply below_alloc | apply pw_below_drewN | apply below_drew1 | refine below_set ?_ GE175.out | refine below_set ?_ GE176.out) | exact HB.out)⟩
 ·rw [if_neg c3] at H
  have c3b0 : decide (a0_0 < a1_0) = false := decide_eq_false c3
  clear c3
  by_cases c9 : a0_0 = a1_0
  ·rw [if_pos c9] at H
   have c9b0 : (a0_0 == a1_0) = true := beq_iff_eq.mpr c9
   have c9b1 : (a0_0 != a1_0) = false := bne_eq_false_iff_eq.mpr c9
   clear c9
   obtain rfl := Option.some.inj H
   go_enter Tryz.func80, Tryz.ntmps80
   go_wp2_with (first | ((with_reducible refine gate_dst (N := 2) rfl ?_); refine box_event ?hg (N := 2) ?hd (cs := #[.int .i32 a0_0, .int .i64 a0_1]) (t := 101) ?hr ?_; (case hd => rfl); (case hg => rfl); (case hr => first | (go_simp; done) | (go_simp; rfl)); intro gb175 hg w10 hbox hb; have n0_ := Aside0.mk (below_step (stB HB.out) hb); have n1_ := Aside0.mk (hbox); have n2_ := Aside0.mk ((by rw [hg]; exact (below_size (stB HB.out)) : w.heap.size ≤ gb175)); have n3_ := Aside0.mk ((by rw [hg]; exact (below_size (stB HB.out)) : w.heap.size ≤ gb175)); clear HB; have HB := n0_; have BK175 := n1_; have GW175 := n2_; have GE175 := n3_; clear n0_ n1_ n2_ n3_; clear hb hbox hg) | ((with_reducible refine gate_dst (N := 3) rfl ?_); refine box_event ?hg (N := 3) ?hd (cs := #[.int .i32 a1_0, .int .i64 a1_1]) (t := 101) ?hr ?_; (case hd => rfl); (case hg => rfl); (case hr => first | (go_simp; done) | (go_simp; rfl)); intro gb176 hg w11 hbox hb; have n0_ := Aside0.mk (blk_below (g := gb175) (o := .cells #[.int .i32 a0_0, .int .i64 a0_1] 101 (0, 0)) (stK BK175.out) hb); have n1_ := Aside0.mk (below_step (by repeat (first | (with_reducible first | exact HB.out | apply below_alloc | apply pw_below_drewN | apply below_drew1 | refine below_set ?_ GE175.out) | exact HB.out)) hb); have n2_ := Aside0.mk (hbox); have n3_ := Aside0.mk ((by rw [hg]; exact (below_size (by repeat (first | (with_reducible first | exact HB.out | apply below_alloc | apply pw_below_drewN | apply below_drew1 | refine below_set ?_ GE175.out) | exact HB.out))) : w.heap.size ≤ gb176)); have n4_ := Aside0.mk ((by rw [hg]; exact (below_size (by repeat (first | (with_reducible first | exact HB.out | apply below_alloc | apply pw_below_drewN | apply below_drew1 | refine below_set ?_ GE175.out) | exact HB.out))) : w.heap.size ≤ gb176)); have n5_ := Aside0.mk ((by rw [hg]; exact Nat.ne_of_lt (blk_lt (g := gb175) (o := .cells #[.int .i32 a0_0, .int .i64 a0_1] 101 (0, 0)) (stK BK175.out)) : gb175 ≠ gb176)); have n6_ := Aside0.mk ((by rw [hg]; exact Nat.ne_of_gt (blk_lt (g := gb175) (o := .cells #[.int .i32 a0_0, .int .i64 a0_1] 101 (0, 0)) (stK BK175.out)) : gb176 ≠ gb175)); clear BK175; clear HB; have BK175 := n0_; have HB := n1_; have BK176 := n2_; have GW176 := n3_; have GE176 := n4_; have NB175_176 := n5_; have NB176_175 := n6_; clear n0_ n1_ n2_ n3_ n4_ n5_ n6_; clear hb hbox hg; have hnb12 := NB175_176.out; have hnc12 := NB176_175.out; obtain ⟨hcz13_0, hcz13_1⟩ := bc2 BK175.out; obtain ⟨hfz13_0, hfz13_1⟩ := bf2 BK175.out; obtain ⟨hcz14_0, hcz14_1⟩ := bc2 BK176.out; obtain ⟨hfz14_0, hfz14_1⟩ := bf2 BK176.out))
   go_ret
   exact ⟨by first | rfl | (simp [errW_none, errW_some] <;> rfl) | (simp [*, errW_none, errW_some] <;> rfl), by repeat (first | (with_reducible first | exact HB.out | apply below_alloc | apply pw_below_drewN | apply below_drew1 | refine below_set ?_ GE175.out | refine below_set ?_ GE176.out) | exact HB.out)⟩
  ·rw [if_neg c9] at H
   have c9b0 : (a0_0 == a1_0) = false := beq_eq_false_iff_ne.mpr c9
   have c9b1 : (a0_0 != a1_0) = true := bne_iff_ne.mpr c9
   obtain rfl := Option.some.inj H
   go_enter Tryz.func80, Tryz.ntmps80
   go_wp2_with (first | ((with_reducible refine gate_dst (N := 2) rfl ?_); refine box_event ?hg (N := 2) ?hd (cs := #[.int .i32 a0_0, .int .i64 a0_1]) (t := 101) ?hr ?_; (case hd => rfl); (case hg => rfl); (case hr => first | (go_simp; done) | (go_simp; rfl)); intro gb175 hg w15 hbox hb; have n0_ := Aside0.mk (below_step (stB HB.out) hb); have n1_ := Aside0.mk (hbox); have n2_ := Aside0.mk ((by rw [hg]; exact (below_size (stB HB.out)) : w.heap.size ≤ gb175)); have n3_ := Aside0.mk ((by rw [hg]; exact (below_size (stB HB.out)) : w.heap.size ≤ gb175)); clear HB; have HB := n0_; have BK175 := n1_; have GW175 := n2_; have GE175 := n3_; clear n0_ n1_ n2_ n3_; clear hb hbox hg) | ((with_reducible refine gate_dst (N := 3) rfl ?_); refine box_event ?hg (N := 3) ?hd (cs := #[.int .i32 a1_0, .int .i64 a1_1]) (t := 101) ?hr ?_; (case hd => rfl); (case hg => rfl); (case hr => first | (go_simp; done) | (go_simp; rfl)); intro gb176 hg w16 hbox hb; have n0_ := Aside0.mk (blk_below (g := gb175) (o := .cells #[.int .i32 a0_0, .int .i64 a0_1] 101 (0, 0)) (stK BK175.out) hb); have n1_ := Aside0.mk (below_step (by repeat (first | (with_reducible first | exact HB.out | apply below_alloc | apply pw_below_drewN | apply below_drew1 | refine below_set ?_ GE175.out) | exact HB.out)) hb); have n2_ := Aside0.mk (hbox); have n3_ := Aside0.mk ((by rw [hg]; exact (below_size (by repeat (first | (with_reducible first | exact HB.out | apply below_alloc | apply pw_below_drewN | apply below_drew1 | refine below_set ?_ GE175.out) | exact HB.out))) : w.heap.size ≤ gb176)); have n4_ := Aside0.mk ((by rw [hg]; exact (below_size (by repeat (first | (with_reducible first | exact HB.out | apply below_alloc | apply pw_below_drewN | apply below_drew1 | refine below_set ?_ GE175.out) | exact HB.out))) : w.heap.size ≤ gb176)); have n5_ := Aside0.mk ((by rw [hg]; exact Nat.ne_of_lt (blk_lt (g := gb175) (o := .cells #[.int .i32 a0_0, .int .i64 a0_1] 101 (0, 0)) (stK BK175.out)) : gb175 ≠ gb176)); have n6_ := Aside0.mk ((by rw [hg]; exact Nat.ne_of_gt (blk_lt (g := gb175) (o := .cells #[.int .i32 a0_0, .int .i64 a0_1] 101 (0, 0)) (stK BK175.out)) : gb176 ≠ gb175)); clear BK175; clear HB; have BK175 := n0_; have HB := n1_; have BK176 := n2_; have GW176 := n3_; have GE176 := n4_; have NB175_176 := n5_; have NB176_175 := n6_; clear n0_ n1_ n2_ n3_ n4_ n5_ n6_; clear hb hbox hg; have hnb17 := NB175_176.out; have hnc17 := NB176_175.out; obtain ⟨hcz18_0, hcz18_1⟩ := bc2 BK175.out; obtain ⟨hfz18_0, hfz18_1⟩ := bf2 BK175.out; obtain ⟨hcz19_0, hcz19_1⟩ := bc2 BK176.out; obtain ⟨hfz19_0, hfz19_1⟩ := bf2 BK176.out))
   go_ret
   exact ⟨by first | rfl | (simp [errW_none, errW_some] <;> rfl) | (simp [*, errW_none, errW_some] <;> rfl), by repeat (first | (with_reducible first | exact HB.out | apply below_alloc | apply pw_below_drewN | apply below_drew1 | refine below_set ?_ GE175.out | refine below_set ?_ GE176.out) | exact HB.out)⟩
def trivetref04_MayKeys.l0 : Nat → List (S101) → Int → Option (Bool)
 | 0, _, _ => none
 | k + 1, x0, x3 => if x3 < (x0.length : Int) then (if 0 ≤ (wrap64 (x3 - 1)) then (if (wrap64 (x3 - 1)) < (x0.length : Int) then (if 0 ≤ x3 then ((trivetref04_Less.f ((rd_T101 x0 (wrap64 (x3 - 1))).f0) ((rd_T101 x0 (wrap64 (x3 - 1))).f1) ((rd_T101 x0 x3).f0) ((rd_T101 x0 x3).f1)).bind fun t179 => (if t179 = true then (trivetref04_MayKeys.l0 k x0 (wrap64 (x3 + 1))) else (some false))) else (none)) else (none)) else (none)) else (some (decide ((x0.length : Int) ≤ 16)))
def trivetref04_MayKeys.f (k : Nat) (l0 : List (S101)) : Option (Bool) := trivetref04_MayKeys.l0 k l0 1
def trivetref04_MayKeys.T4 : Bool × List (List Nat × List Nat) := (true, [([], []), ([], []), ([1], [1]), ([0, 2], [0, 2]), ([3], [3]), ([], []), ([], []), ([5, 6], [5, 6]), ([7], [7]), ([4, 8], [4, 8]), ([9], [9])])
def trivetref04_MayKeys.B4 : List Nat := [0, 0, 2, 7, 15, 0, 0, 96, 224, 511, 1023]
theorem trivetref04_MayKeys.tab4 : rtab .any (opsOf Tryz.f41 4) = trivetref04_MayKeys.T4 := by kernel_rfl
theorem trivetref04_MayKeys.bits4 : waitsOk trivetref04_MayKeys.T4.2 trivetref04_MayKeys.B4 = true := by kernel_rfl
set_option maxHeartbeats 8000000 in
set_option maxRecDepth 100000 in
theorem trivetref04_MayKeys.calls (k : Nat) (A0 : Option Addr) (c0 : Nat) (l0 : List (S101)) (r : Bool) (w : World) (hr0 : Kd.C k101 w A0 l0.length l0) (hc0 : l0.length ≤ c0) (h : trivetref04_MayKeys.f k l0 = some r) :
  Calls Tryz.prog 41 #[.slice A0 l0.length c0] w fun e w' => e = .returned (.bool r) ∧ Below w.heap.size w w' := by
 have hu101 := Tryz.underlying101
 have HR0 := Aside0.mk hr0
 have HC0 := Aside0.mk hc0
 clear hr0 hc0
 have HB := Aside0.mk (Below.refl w.heap.size w)
 have H : (trivetref04_MayKeys.l0 k l0 1) = some r := h
 clear h
 have H' := Aside0.mk H
 clear H
 go_enter Tryz.func41, Tryz.ntmps41
 go_wp2
 go_loopg [3] k (fun kq v3 w' => ∃ (x3_1 : Int), v3 = .int .i64 x3_1 ∧ Aside0 (trivetref04_MayKeys.l0 kq l0 x3_1 = some r) ∧ Aside0 (kq ≤ k) ∧ Aside0 (Below w.heap.size w w'))
 case atStart => exact ⟨(1), (by first | rfl | (simp; done) | (simp [*]; done)), H', ⟨Nat.le_refl _⟩, ⟨stB HB.out⟩⟩
 case round =>
  clear H'
  obtain ⟨x3_1, rfl, HA, HK1, HB⟩ := hrel
  cases gk with
  | zero => exact absurd HA.out (by simp [trivetref04_MayKeys.l0])
  | succ k1 =>
   have H := HA.out
   clear HA
   simp only [trivetref04_MayKeys.l0] at H
   by_cases c2 : x3_1 < (l0.length : Int)
   ·rw [if_pos c2] at H
    have c2b0 : decide (x3_1 < (l0.length : Int)) = true := decide_eq_true c2
    clear c2
    obtain ⟨ji3, hji3⟩ : ∃ j_ : Int, (wrap64 (x3_1 - 1)) = j_ := ⟨_, rfl⟩
    replace H : (if 0 ≤ (ji3) then (if (ji3) < (l0.length : Int) then (if 0 ≤ x3_1 then ((trivetref04_Less.f ((rd_T101 l0 (ji3)).f0) ((rd_T101 l0 (ji3)).f1) ((rd_T101 l0 x3_1).f0) ((rd_T101 l0 x3_1).f1)).bind fun t179 => (if t179 = true then (trivetref04_MayKeys.l0 k1 l0 (wrap64 (x3_1 + 1))) else (some false))) else (none)) else (none)) else (none)) = some r := by first | (rw [hji3] at H; exact H) | (simp only [hji3] at H ⊢; exact H)
    have hji3w : (IntKind.i64.wrap (x3_1 - 1)) = ji3 := (i64_w _).trans hji3
    by_cases c4 : 0 ≤ (ji3)
    ·rw [if_pos c4] at H
     have c4b0 : decide (0 ≤ (ji3)) = true := decide_eq_true c4
     clear c4
     by_cases c5 : (ji3) < (l0.length : Int)
     ·rw [if_pos c5] at H
      have c5b0 : decide ((ji3) < (l0.length : Int)) = true := decide_eq_true c5
      clear c5
      by_cases c6 : 0 ≤ x3_1
      ·rw [if_pos c6] at H
       have c6b0 : decide (0 ≤ x3_1) = true := decide_eq_true c6
       clear c6
       replace H := Option.bind_eq_some_iff.mp H
       obtain ⟨t179, A70, H⟩ := H
       replace H : (if t179 = true then (trivetref04_MayKeys.l0 k1 l0 (wrap64 (x3_1 + 1))) else (some false)) = some r := H
       have A7 := Aside0.mk A70
       clear A70
       by_cases c8 : t179 = true
       ·subst c8
        have H1 : (trivetref04_MayKeys.l0 k1 l0 (wrap64 (x3_1 + 1))) = some r := by rw [if_pos rfl] at H; exact H
        clear H
        have H := H1
        clear H1
        have H' := Aside0.mk H
        clear H
        try go_wp2
        have n0_ := Aside0.mk (below_drew1 HB.out)
        clear HB
        have HB := n0_
        clear n0_
        have p177 : 0 ≤ ((ji3) : Int) := of_decide_eq_true (by first | (with_reducible assumption) | assumption)
        have q177 : (ji3) < (l0.length : Int) := of_decide_eq_true (by first | (with_reducible assumption) | assumption)
        obtain ⟨ad177, e177, hx177_0, hx177_1⟩ := at_T101 HR0.out (ji3) p177 q177
        have hw177_1 := hx177_1
        have hw177_0 := hx177_0
        cases e177
        replace hx177_0 := cu HB.out hx177_0
        replace hx177_1 := cu HB.out hx177_1
        replace p177 := eq_true p177
        replace q177 := eq_true q177
        have p178 : 0 ≤ (x3_1 : Int) := of_decide_eq_true (by first | (with_reducible assumption) | assumption)
        have q178 : x3_1 < (l0.length : Int) := of_decide_eq_true (by first | (with_reducible assumption) | assumption)
        obtain ⟨ad178, e178, hx178_0, hx178_1⟩ := at_T101 HR0.out x3_1 p178 q178
        have hw178_1 := hx178_1
        have hw178_0 := hx178_0
        obtain rfl : ad177 = ad178 := (by injection e178)
        replace hx178_0 := cu HB.out hx178_0
        replace hx178_1 := cu HB.out hx178_1
        replace p178 := eq_true p178
        replace q178 := eq_true q178
        refine start_ (n := 11) (S := fun w' => w'.cell? (ad177.add (((ji3)).toNat * 2)) = some (.int .i32 ((rd_T101 l0 (ji3)).f0)) ∧ w'.cell? ⟨(ad177.add (((ji3)).toNat * 2)).block, (ad177.add (((ji3)).toNat * 2)).off + 1, none⟩ = some (.int .i64 ((rd_T101 l0 (ji3)).f1)) ∧ w'.cell? (ad177.add ((x3_1).toNat * 2)) = some (.int .i32 ((rd_T101 l0 x3_1).f0)) ∧ w'.cell? ⟨(ad177.add ((x3_1).toNat * 2)).block, (ad177.add ((x3_1).toNat * 2)).off + 1, none⟩ = some (.int .i64 ((rd_T101 l0 x3_1).f1))) (ds := []) #[false, false, false, false, false, false, false, false, false, false, false] (by kernel_rfl) rfl rfl ⟨(cu HB.out hw177_0), (cu HB.out hw177_1), (cu HB.out hw178_0), (cu HB.out hw178_1)⟩ (fun hHeld => ?_); refine with_tabW trivetref04_MayKeys.tab4 trivetref04_MayKeys.bits4 (fun HT_ HW_ => ?_)
        generalize wr.drew = w9 at HB hx177_0 hx177_1 hx178_0 hx178_1 hHeld ⊢
        refine pure_ (i := 0) (N := some 10) (v := ?_) (a' := ?_) #[true, false, false, false, false, false, false, false, false, false, false] rfl rfl (any_of HT_.out (by kernel_rfl)) (fun _ _ _ h => h) (Or.inl ⟨by rfl, ?_⟩) ?_ ?_
        rotate_left
        ·intro w'
         go_simp
         with_reducible rfl
        rotate_left
        ·simp only [Act.put, sq1, sq2, sq3, i64_w, i32_w]
         rfl
        refine pure_ (i := 1) (N := some 11) (v := ?_) (a' := ?_) #[true, true, false, false, false, false, false, false, false, false, false] rfl rfl (any_of HT_.out (by kernel_rfl)) (fun _ _ _ h => h) (Or.inl ⟨by rfl, ?_⟩) ?_ ?_
        rotate_left
        ·intro w'
         go_simp
         with_reducible rfl
        rotate_left
        ·simp only [Act.put, sq1, sq2, sq3, i64_w, i32_w]
         rfl
        refine pure_ (i := 2) (N := some 12) (v := ?_) (a' := ?_) #[true, true, true, false, false, false, false, false, false, false, false] rfl rfl (any_of HT_.out (by kernel_rfl)) (fun _ _ _ h => h) (Or.inl ⟨by rfl, ?_⟩) ?_ ?_
        rotate_left
        ·intro w'
         go_simp
         with_reducible rfl
        rotate_left
        ·simp only [Act.put, sq1, sq2, sq3, i64_w, i32_w]
         rfl
        refine pure_ (i := 3) (N := some 13) (v := ?_) (a' := ?_) #[true, true, true, true, false, false, false, false, false, false, false] rfl rfl (any_of HT_.out (by kernel_rfl)) (fun _ _ _ h => h) (Or.inl ⟨by rfl, ?_⟩) ?_ ?_
        rotate_left
        ·intro w'
         go_simp
         with_reducible rfl
        rotate_left
        ·simp only [Act.put, sq1, sq2, sq3, i64_w, i32_w]
         rfl
        refine pure_ (i := 5) (N := some 15) (v := ?_) (a' := ?_) #[true, true, true, true, false, true, false, false, false, false, false] rfl rfl (any_of HT_.out (by kernel_rfl)) (fun _ _ _ h => h) (Or.inl ⟨by rfl, ?_⟩) ?_ ?_
        rotate_left
        ·intro w'
         go_simp
         with_reducible rfl
        rotate_left
        ·simp only [Act.put, sq1, sq2, sq3, i64_w, i32_w]
         rfl
        refine pure_ (i := 6) (N := some 16) (v := ?_) (a' := ?_) #[true, true, true, true, false, true, true, false, false, false, false] rfl rfl (any_of HT_.out (by kernel_rfl)) (fun _ _ _ h => h) (Or.inl ⟨by rfl, ?_⟩) ?_ ?_
        rotate_left
        ·intro w'
         go_simp
         with_reducible rfl
        rotate_left
        ·simp only [Act.put, sq1, sq2, sq3, i64_w, i32_w]
         rfl
        refine pure_ (i := 7) (N := some 17) (v := ?_) (a' := ?_) #[true, true, true, true, false, true, true, true, false, false, false] rfl rfl (any_of HT_.out (by kernel_rfl)) (fun _ _ _ h => h) (Or.inl ⟨by rfl, ?_⟩) ?_ ?_
        rotate_left
        ·intro w'
         go_simp
         with_reducible rfl
        rotate_left
        ·simp only [Act.put, sq1, sq2, sq3, i64_w, i32_w]
         rfl
        refine take_ (i := 4) (N := some 14) (v := ?_) (a' := ?_) #[true, true, true, true, true, true, true, true, false, false, false] rfl rfl (take_ofW HT_.out HW_.out (by kernel_rfl)) (fun _ _ _ h => h) (Or.inl ⟨by rfl, ?_⟩) hHeld ?_ ?_
        rotate_left
        ·rintro w' ⟨s0, s1, s2, s3⟩
         go_simp
         with_reducible rfl
        rotate_left
        ·simp only [Act.put, sq1, sq2, sq3, i64_w, i32_w]
         rfl
        refine take_ (i := 8) (N := some 18) (v := ?_) (a' := ?_) #[true, true, true, true, true, true, true, true, true, false, false] rfl rfl (take_ofW HT_.out HW_.out (by kernel_rfl)) (fun _ _ _ h => h) (Or.inl ⟨by rfl, ?_⟩) hHeld ?_ ?_
        rotate_left
        ·rintro w' ⟨s0, s1, s2, s3⟩
         go_simp
         with_reducible rfl
        rotate_left
        ·simp only [Act.put, sq1, sq2, sq3, i64_w, i32_w]
         rfl
        refine one_ (i := 9) (N := some 19) #[true, true, true, true, true, true, true, true, true, true, false] rfl rfl (one_of HT_.out (by kernel_rfl)) (by decide) (fun K hK => ?_)
        refine goes_ Tryz.func80 (by kernel_rfl) rfl #[.agg #[.int .i32 ((rd_T101 l0 (ji3)).f0), .int .i64 ((rd_T101 l0 (ji3)).f1)], .agg #[.int .i32 ((rd_T101 l0 x3_1).f0), .int .i64 ((rd_T101 l0 x3_1).f1)]] (by rfl) rfl rfl (by (try simp only [List.map_toArray, List.map_cons, List.map_nil]); first | done | (simp only [hji3]; rfl) | rfl | (simp only [List.length_drop, List.length_take]; rfl)) ?_
        with_reducible refine (trivetref04_Less.calls ((rd_T101 l0 (ji3)).f0) ((rd_T101 l0 (ji3)).f1) ((rd_T101 l0 x3_1).f0) ((rd_T101 l0 x3_1).f1) true _ A7.out).mono ?_
        rintro e w10 ⟨rfl, hb⟩
        refine ⟨_, rfl, ?_⟩
        have n0_ := Aside0.mk (below_step (stB HB.out) hb)
        clear HB
        have HB := n0_
        clear n0_
        (try clear hb)
        (try clear hb2)
        (try clear hk)
        (try clear hi)
        refine hK.out _ _ ⟨(cu HB.out hw177_0), (cu HB.out hw177_1), (cu HB.out hw178_0), (cu HB.out hw178_1)⟩ (fun hHeld => ?_)
        clear hK K
        refine norm_ (a' := ?_) ?_ ?_
        rotate_left
        ·show Act.put _ (some 19) _ = _
         simp only [Act.put, sq1, sq2, sq3, i64_w, i32_w]
         rfl
        refine pure_ (i := 10) (N := some 20) (v := ?_) (a' := ?_) #[true, true, true, true, true, true, true, true, true, true, true] rfl rfl (any_of HT_.out (by kernel_rfl)) (fun _ _ _ h => h) (Or.inl ⟨by rfl, ?_⟩) ?_ ?_
        rotate_left
        ·intro w'
         go_simp
         with_reducible rfl
        rotate_left
        ·simp only [Act.put, sq1, sq2, sq3, i64_w, i32_w]
         rfl
        refine done_ (done_of HT_.out (by kernel_rfl)) ?_
        try go_wp2
        go_roundg k1
        case measure => have := HK1.out; omega
        case rel => exact ⟨(wrap64 (x3_1 + 1)), (by first | rfl | (simp; done) | (simp [*]; done)), H', ⟨by have := HK1.out; omega⟩, ⟨stB HB.out⟩⟩
       ·replace c8 := Bool.eq_false_iff.mpr c8
        subst c8
        have H1 : (some false) = some r := by rw [if_neg (show ¬ (false = true) by decide)] at H; exact H
        clear H
        have H := H1
        clear H1
        obtain rfl := Option.some.inj H
        try go_wp2
        have n0_ := Aside0.mk (below_drew1 HB.out)
        clear HB
        have HB := n0_
        clear n0_
        have p177 : 0 ≤ ((ji3) : Int) := of_decide_eq_true (by first | (with_reducible assumption) | assumption)
        have q177 : (ji3) < (l0.length : Int) := of_decide_eq_true (by first | (with_reducible assumption) | assumption)
        obtain ⟨ad177, e177, hx177_0, hx177_1⟩ := at_T101 HR0.out (ji3) p177 q177
        have hw177_1 := hx177_1
        have hw177_0 := hx177_0
        cases e177
        replace hx177_0 := cu HB.out hx177_0
        replace hx177_1 := cu HB.out hx177_1
        replace p177 := eq_true p177
        replace q177 := eq_true q177
        have p178 : 0 ≤ (x3_1 : Int) := of_decide_eq_true (by first | (with_reducible assumption) | assumption)
        have q178 : x3_1 < (l0.length : Int) := of_decide_eq_true (by first | (with_reducible assumption) | assumption)
        obtain ⟨ad178, e178, hx178_0, hx178_1⟩ := at_T101 HR0.out x3_1 p178 q178
        have hw178_1 := hx178_1
        have hw178_0 := hx178_0
        obtain rfl : ad177 = ad178 := (by injection e178)
        replace hx178_0 := cu HB.out hx178_0
        replace hx178_1 := cu HB.out hx178_1
        replace p178 := eq_true p178
        replace q178 := eq_true q178
        refine start_ (n := 11) (S := fun w' => w'.cell? (ad177.add (((ji3)).toNat * 2)) = some (.int .i32 ((rd_T101 l0 (ji3)).f0)) ∧ w'.cell? ⟨(ad177.add (((ji3)).toNat * 2)).block, (ad177.add (((ji3)).toNat * 2)).off + 1, none⟩ = some (.int .i64 ((rd_T101 l0 (ji3)).f1)) ∧ w'.cell? (ad177.add ((x3_1).toNat * 2)) = some (.int .i32 ((rd_T101 l0 x3_1).f0)) ∧ w'.cell? ⟨(ad177.add ((x3_1).toNat * 2)).block, (ad177.add ((x3_1).toNat * 2)).off + 1, none⟩ = some (.int .i64 ((rd_T101 l0 x3_1).f1))) (ds := []) #[false, false, false, false, false, false, false, false, false, false, false] (by kernel_rfl) rfl rfl ⟨(cu HB.out hw177_0), (cu HB.out hw177_1), (cu HB.out hw178_0), (cu HB.out hw178_1)⟩ (fun hHeld => ?_); refine with_tabW trivetref04_MayKeys.tab4 trivetref04_MayKeys.bits4 (fun HT_ HW_ => ?_)
        generalize wr.drew = w11 at HB hx177_0 hx177_1 hx178_0 hx178_1 hHeld ⊢
        refine pure_ (i := 0) (N := some 10) (v := ?_) (a' := ?_) #[true, false, false, false, false, false, false, false, false, false, false] rfl rfl (any_of HT_.out (by kernel_rfl)) (fun _ _ _ h => h) (Or.inl ⟨by rfl, ?_⟩) ?_ ?_
        rotate_left
        ·intro w'
         go_simp
         with_reducible rfl
        rotate_left
        ·simp only [Act.put, sq1, sq2, sq3, i64_w, i32_w]
         rfl
        refine pure_ (i := 1) (N := some 11) (v := ?_) (a' := ?_) #[true, true, false, false, false, false, false, false, false, false, false] rfl rfl (any_of HT_.out (by kernel_rfl)) (fun _ _ _ h => h) (Or.inl ⟨by rfl, ?_⟩) ?_ ?_
        rotate_left
        ·intro w'
         go_simp
         with_reducible rfl
        rotate_left
        ·simp only [Act.put, sq1, sq2, sq3, i64_w, i32_w]
         rfl
        refine pure_ (i := 2) (N := some 12) (v := ?_) (a' := ?_) #[true, true, true, false, false, false, false, false, false, false, false] rfl rfl (any_of HT_.out (by kernel_rfl)) (fun _ _ _ h => h) (Or.inl ⟨by rfl, ?_⟩) ?_ ?_
        rotate_left
        ·intro w'
         go_simp
         with_reducible rfl
        rotate_left
        ·simp only [Act.put, sq1, sq2, sq3, i64_w, i32_w]
         rfl
        refine pure_ (i := 3) (N := some 13) (v := ?_) (a' := ?_) #[true, true, true, true, false, false, false, false, false, false, false] rfl rfl (any_of HT_.out (by kernel_rfl)) (fun _ _ _ h => h) (Or.inl ⟨by rfl, ?_⟩) ?_ ?_
        rotate_left
        ·intro w'
         go_simp
         with_reducible rfl
        rotate_left
        ·simp only [Act.put, sq1, sq2, sq3, i64_w, i32_w]
         rfl
        refine pure_ (i := 5) (N := some 15) (v := ?_) (a' := ?_) #[true, true, true, true, false, true, false, false, false, false, false] rfl rfl (any_of HT_.out (by kernel_rfl)) (fun _ _ _ h => h) (Or.inl ⟨by rfl, ?_⟩) ?_ ?_
        rotate_left
        ·intro w'
         go_simp
         with_reducible rfl
        rotate_left
        ·simp only [Act.put, sq1, sq2, sq3, i64_w, i32_w]
         rfl
        refine pure_ (i := 6) (N := some 16) (v := ?_) (a' := ?_) #[true, true, true, true, false, true, true, false, false, false, false] rfl rfl (any_of HT_.out (by kernel_rfl)) (fun _ _ _ h => h) (Or.inl ⟨by rfl, ?_⟩) ?_ ?_
        rotate_left
        ·intro w'
         go_simp
         with_reducible rfl
        rotate_left
        ·simp only [Act.put, sq1, sq2, sq3, i64_w, i32_w]
         rfl
        refine pure_ (i := 7) (N := some 17) (v := ?_) (a' := ?_) #[true, true, true, true, false, true, true, true, false, false, false] rfl rfl (any_of HT_.out (by kernel_rfl)) (fun _ _ _ h => h) (Or.inl ⟨by rfl, ?_⟩) ?_ ?_
        rotate_left
        ·intro w'
         go_simp
         with_reducible rfl
        rotate_left
        ·simp only [Act.put, sq1, sq2, sq3, i64_w, i32_w]
         rfl
        refine take_ (i := 4) (N := some 14) (v := ?_) (a' := ?_) #[true, true, true, true, true, true, true, true, false, false, false] rfl rfl (take_ofW HT_.out HW_.out (by kernel_rfl)) (fun _ _ _ h => h) (Or.inl ⟨by rfl, ?_⟩) hHeld ?_ ?_
        rotate_left
        ·rintro w' ⟨s0, s1, s2, s3⟩
         go_simp
         with_reducible rfl
        rotate_left
        ·simp only [Act.put, sq1, sq2, sq3, i64_w, i32_w]
         rfl
        refine take_ (i := 8) (N := some 18) (v := ?_) (a' := ?_) #[true, true, true, true, true, true, true, true, true, false, false] rfl rfl (take_ofW HT_.out HW_.out (by kernel_rfl)) (fun _ _ _ h => h) (Or.inl ⟨by rfl, ?_⟩) hHeld ?_ ?_
        rotate_left
        ·rintro w' ⟨s0, s1, s2, s3⟩
         go_simp
         with_reducible rfl
        rotate_left
        ·simp only [Act.put, sq1, sq2, sq3, i64_w, i32_w]
         rfl
        refine one_ (i := 9) (N := some 19) #[true, true, true, true, true, true, true, true, true, true, false] rfl rfl (one_of HT_.out (by kernel_rfl)) (by decide) (fun K hK => ?_)
        refine goes_ Tryz.func80 (by kernel_rfl) rfl #[.agg #[.int .i32 ((rd_T101 l0 (ji3)).f0), .int .i64 ((rd_T101 l0 (ji3)).f1)], .agg #[.int .i32 ((rd_T101 l0 x3_1).f0), .int .i64 ((rd_T101 l0 x3_1).f1)]] (by rfl) rfl rfl (by (try simp only [List.map_toArray, List.map_cons, List.map_nil]); first | done | (simp only [hji3]; rfl) | rfl | (simp only [List.length_drop, List.length_take]; rfl)) ?_
        with_reducible refine (trivetref04_Less.calls ((rd_T101 l0 (ji3)).f0) ((rd_T101 l0 (ji3)).f1) ((rd_T101 l0 x3_1).f0) ((rd_T101 l0 x3_1).f1) false _ A7.out).mono ?_
        rintro e w12 ⟨rfl, hb⟩
        refine ⟨_, rfl, ?_⟩
        have n0_ := Aside0.mk (below_step (stB HB.out) hb)
        clear HB
        have HB := n0_
        clear n0_
        (try clear hb)
        (try clear hb2)
        (try clear hk)
        (try clear hi)
        refine hK.out _ _ ⟨(cu HB.out hw177_0), (cu HB.out hw177_1), (cu HB.out hw178_0), (cu HB.out hw178_1)⟩ (fun hHeld => ?_)
        clear hK K
        refine norm_ (a' := ?_) ?_ ?_
        rotate_left
        ·show Act.put _ (some 19) _ = _
         simp only [Act.put, sq1, sq2, sq3, i64_w, i32_w]
         rfl
        refine pure_ (i := 10) (N := some 20) (v := ?_) (a' := ?_) #[true, true, true, true, true, true, true, true, true, true, true] rfl rfl (any_of HT_.out (by kernel_rfl)) (fun _ _ _ h => h) (Or.inl ⟨by rfl, ?_⟩) ?_ ?_
        rotate_left
        ·intro w'
         go_simp
         with_reducible rfl
        rotate_left
        ·simp only [Act.put, sq1, sq2, sq3, i64_w, i32_w]
         rfl
        refine done_ (done_of HT_.out (by kernel_rfl)) ?_
        try go_wp2
        go_ret
        exact ⟨by first | rfl | (simp [errW_none, errW_some] <;> rfl) | (simp only [← hji3]; first | rfl | (simp [errW_none, errW_some] <;> rfl)) | (simp [*, errW_none, errW_some] <;> rfl), stB HB.out⟩
      ·rw [if_neg c6] at H
       exact absurd H (by simp)
     ·rw [if_neg c5] at H
      exact absurd H (by simp)
    ·rw [if_neg c4] at H
     exact absurd H (by simp)
   ·rw [if_neg c2] at H
    have c2b0 : decide (x3_1 < (l0.length : Int)) = false := decide_eq_false c2
    clear c2
    obtain rfl := Option.some.inj H
    go_wp2
    go_ret
    exact ⟨by first | rfl | (simp [errW_none, errW_some] <;> rfl) | (simp [*, errW_none, errW_some] <;> rfl), stB HB.out⟩
def record_txn.f (a0_0 : Int) (a0_1 : Int) (l0_2 : List Int) (l0_3 : List Int) (l0_4 : List (S101)) (l0_5 : List (S101)) : Option (Bool) := (record_between.f 1 1099511627776 (([a0_0, a0_1] : List Int))).bind fun t186 => (if t186 = true then (if (l0_2.length : Int) ≤ 512 then (if (l0_3.length : Int) ≤ 8 then ((record_keys.f l0_4).bind fun t187 => (if t187 = true then ((record_keys.f l0_5).bind fun t188 => (some t188)) else (some false))) else (some false)) else (some false)) else (some false))
set_option maxHeartbeats 4000000 in
theorem record_txn.calls (a0_0 : Int) (a0_1 : Int) (A0_2 : Option Addr) (c0_2 : Nat) (l0_2 : List Int) (A0_3 : Option Addr) (c0_3 : Nat) (l0_3 : List Int) (A0_4 : Option Addr) (c0_4 : Nat) (l0_4 : List (S101)) (A0_5 : Option Addr) (c0_5 : Nat) (l0_5 : List (S101)) (r : Bool) (w : World) (hr0_2 : Kd.C (Kd.int .u8) w A0_2 l0_2.length l0_2) (hc0_2 : l0_2.length ≤ c0_2) (hr0_3 : Kd.C (Kd.int .i64) w A0_3 l0_3.length l0_3) (hc0_3 : l0_3.length ≤ c0_3) (hr0_4 : Kd.C k101 w A0_4 l0_4.length l0_4) (hc0_4 : l0_4.length ≤ c0_4) (hr0_5 : Kd.C k101 w A0_5 l0_5.length l0_5) (hc0_5 : l0_5.length ≤ c0_5) (h : record_txn.f a0_0 a0_1 l0_2 l0_3 l0_4 l0_5 = some r) :
  Calls Tryz.prog 42 #[.agg #[.int .i64 a0_0, .int .i64 a0_1, .slice A0_2 l0_2.length c0_2, .slice A0_3 l0_3.length c0_3, .slice A0_4 l0_4.length c0_4, .slice A0_5 l0_5.length c0_5]] w fun e w' => e = .returned (.bool r) ∧ Below w.heap.size w w' := by
 have R := Aside0.mk (And.intro hr0_2 (And.intro hr0_3 (And.intro hr0_4 hr0_5)))
 have C := Aside0.mk (And.intro hc0_2 (And.intro hc0_3 (And.intro hc0_4 hc0_5)))
 clear hr0_2 hc0_2 hr0_3 hc0_3 hr0_4 hc0_4 hr0_5 hc0_5
 obtain ⟨x, hb⟩ := box1 w #[.int .i64 a0_0, .int .i64 a0_1, .slice A0_2 l0_2.length c0_2, .slice A0_3 l0_3.length c0_3, .slice A0_4 l0_4.length c0_4, .slice A0_5 l0_5.length c0_5] 26
 unfold record_txn.f at h
 have H := Aside0.mk h
 clear h
 go_enter Tryz.func42, Tryz.ntmps42
 go_upto_region 1 with fail
 obtain ⟨W, hW⟩ : ∃ W, w.alloc (.cells #[.int .i64 a0_0, .int .i64 a0_1, .slice A0_2 l0_2.length c0_2, .slice A0_3 l0_3.length c0_3, .slice A0_4 l0_4.length c0_4, .slice A0_5 l0_5.length c0_5] 26) = W := ⟨_, rfl⟩
 rw [hW] at x hb ⊢
 have X := Aside0.mk x; have B := Aside0.mk hb
 clear x hb hW
 have x0 : W.cell? ⟨w.heap.size, 0, none⟩ = some (.int .i64 a0_0) := (blk_cell X.out 0).trans rfl
 have x1 : W.cell? ⟨w.heap.size, 1, none⟩ = some (.int .i64 a0_1) := (blk_cell X.out 1).trans rfl
 obtain ⟨b, e, h⟩ := Option.bind_eq_some_iff.1 H.out
 have E := Aside0.mk e; have H1 := Aside0.mk h; clear e h H
 go_wp2_with fail
 refine (record_between.calls 1 1099511627776 (some ⟨W.heap.size, 0, none⟩) 2 [a0_0, a0_1] b _ (clit [a0_0, a0_1] (by simp)) (by simp) E.out).mono ?_
 rintro e W0 ⟨rfl, d⟩
 have B0 := Aside0.mk (below_step (stB B.out) d); have X0 := Aside0.mk (blk_below (stK X.out) d)
 clear d B E X x0 x1
 have B := B0; have X := X0; clear B0 X0
 cases b with
 | false =>
  have h := H1.out; rw [if_neg (by decide)] at h; obtain rfl := Option.some.inj h; clear h
  go_wp2_with fail
  go_ret
  exact ⟨rfl, B.out⟩
 | true =>
  have h := H1.out; rw [if_pos rfl] at h; have H := Aside0.mk h; clear h H1
  have x2 : W0.cell? ⟨w.heap.size, 2, none⟩ = some (.slice A0_2 l0_2.length c0_2) := (blk_cell X.out 2).trans rfl
  by_cases q : (l0_2.length : Int) ≤ 512
  rotate_left
  ·have h := H.out; rw [if_neg q] at h; obtain rfl := Option.some.inj h
   have n0 : decide ((l0_2.length : Int) ≤ 512) = false := decide_eq_false q; have n1 : decide (l0_2.length ≤ 512) = false := decide_eq_false (by omega); clear h q
   go_wp2_with fail
   go_ret
   exact ⟨rfl, B.out⟩
  have h := H.out; rw [if_pos q] at h; clear H; have H := Aside0.mk h; have p10 : decide ((l0_2.length : Int) ≤ 512) = true := decide_eq_true q; have p11 : decide (l0_2.length ≤ 512) = true := decide_eq_true (by omega); clear h q
  have x3 : W0.cell? ⟨w.heap.size, 3, none⟩ = some (.slice A0_3 l0_3.length c0_3) := (blk_cell X.out 3).trans rfl
  by_cases q : (l0_3.length : Int) ≤ 8
  rotate_left
  ·have h := H.out; rw [if_neg q] at h; obtain rfl := Option.some.inj h
   have n0 : decide ((l0_3.length : Int) ≤ 8) = false := decide_eq_false q; have n1 : decide (l0_3.length ≤ 8) = false := decide_eq_false (by omega); clear h q
   go_wp2_with fail
   go_ret
   exact ⟨rfl, B.out⟩
  have h := H.out; rw [if_pos q] at h; clear H; have H := Aside0.mk h; have p20 : decide ((l0_3.length : Int) ≤ 8) = true := decide_eq_true q; have p21 : decide (l0_3.length ≤ 8) = true := decide_eq_true (by omega); clear h q
  have x4 : W0.cell? ⟨w.heap.size, 4, none⟩ = some (.slice A0_4 l0_4.length c0_4) := (blk_cell X.out 4).trans rfl
  obtain ⟨b, e, h⟩ := Option.bind_eq_some_iff.1 H.out
  have E := Aside0.mk e; have H1 := Aside0.mk h; clear e h H
  go_wp2_with fail
  refine (record_keys.calls A0_4 c0_4 l0_4 b W0 (Kd.C_below R.out.2.2.1 B.out) C.out.2.2.1 E.out).mono ?_
  rintro e W3 ⟨rfl, d⟩
  have B3 := Aside0.mk (below_step B.out d); have X3 := Aside0.mk (blk_below X.out d)
  clear d B E X x4
  have B := B3; have X := X3; clear B3 X3
  cases b with
  | false =>
   have h := H1.out; rw [if_neg (by decide)] at h; obtain rfl := Option.some.inj h; clear h
   go_wp2_with fail
   go_ret
   exact ⟨rfl, B.out⟩
  | true =>
   have h := H1.out; rw [if_pos rfl] at h; have H := Aside0.mk h; clear h H1
   have x5 : W3.cell? ⟨w.heap.size, 5, none⟩ = some (.slice A0_5 l0_5.length c0_5) := (blk_cell X.out 5).trans rfl
   obtain ⟨b, e, h⟩ := Option.bind_eq_some_iff.1 H.out
   have E := Aside0.mk e; have H1 := Aside0.mk h; clear e h H
   go_wp2_with fail
   refine (record_keys.calls A0_5 c0_5 l0_5 b W3 (Kd.C_below R.out.2.2.2 B.out) C.out.2.2.2 E.out).mono ?_
   rintro e W4 ⟨rfl, d⟩
   have B4 := Aside0.mk (below_step B.out d); have X4 := Aside0.mk (blk_below X.out d)
   clear d B E X x5
   have B := B4; have X := X4; clear B4 X4
   obtain rfl := Option.some.inj H1.out
   go_wp2_with fail
   go_ret
   exact ⟨rfl, B.out⟩
def trivetref04_count.f (a0 : Int) : Option (Bool) := if a0 ≥ 0 then (some (decide (a0 ≤ 1099511627776))) else (some false)
set_option maxHeartbeats 8000000 in
set_option maxRecDepth 100000 in
theorem trivetref04_count.calls (a0 : Int) (r : Bool) (w : World) (h : trivetref04_count.f a0 = some r) :
  Calls Tryz.prog 67 #[.int .i64 a0] w fun e w' => e = .returned (.bool r) ∧ Drawn0 w w' := by
 have H : (if a0 ≥ 0 then (some (decide (a0 ≤ 1099511627776))) else (some false)) = some r := h
 clear h
 by_cases c2 : a0 ≥ 0
 ·rw [if_pos c2] at H
  have c2b0 : decide (0 ≤ a0) = true := decide_eq_true c2
  clear c2
  obtain rfl := Option.some.inj H
  go_enter Tryz.func67, Tryz.ntmps67
  go_wp2
  go_ret
  exact ⟨by first | rfl | (simp; done) | (simp [*]; done), by repeat (first | exact Drawn0.refl _ | apply Drawn0.step)⟩
 ·rw [if_neg c2] at H
  have c2b0 : decide (0 ≤ a0) = false := decide_eq_false c2
  clear c2
  obtain rfl := Option.some.inj H
  go_enter Tryz.func67, Tryz.ntmps67
  go_wp2
  go_ret
  exact ⟨by first | rfl | (simp; done) | (simp [*]; done), by repeat (first | exact Drawn0.refl _ | apply Drawn0.step)⟩
end Go.Proofs.YtgiefblcckikeaaGreat.G
end

section
/- record.SameEntry. -/
namespace Go.Proofs.YtgiefblcckikeaaGreat.M
open Go.RowKit Go.Proofs.YtgiefblcckikeaaGreatW.PrintWords Go.Proofs.YtgiefblcckikeaaGreatW.PrintLast Go.Proofs.YtgiefblcckikeaaGreatW.PrintMore Go.Proofs.YtgiefblcckikeaaGreat.G
structure TxAt (w : World) (p : Addr) (x : TxD) (A2 : Option Addr) (c2 : Nat) (A3 : Option Addr) (c3 : Nat) (A4 : Option Addr) (c4 : Nat) (A5 : Option Addr) (c5 : Nat) : Prop where
 e0 : w.cell? p = some (.int .i64 x.f0)
 e1 : w.cell? ⟨p.block, p.off + 1, none⟩ = some (.int .i64 x.f1)
 e2 : w.cell? ⟨p.block, p.off + 2, none⟩ = some (.slice A2 x.f2.length c2)
 e3 : w.cell? ⟨p.block, p.off + 3, none⟩ = some (.slice A3 x.f3.length c3)
 e4 : w.cell? ⟨p.block, p.off + 4, none⟩ = some (.slice A4 x.f4.length c4)
 e5 : w.cell? ⟨p.block, p.off + 5, none⟩ = some (.slice A5 x.f5.length c5)
structure TxC (w : World) (x : TxD) (A2 : Option Addr) (c2 : Nat) (A3 : Option Addr) (c3 : Nat) (A4 : Option Addr) (c4 : Nat) (A5 : Option Addr) (c5 : Nat) : Prop where
 l2 : x.f2.length ≤ c2
 g2 : (Kd.int .u8).C w A2 x.f2.length x.f2
 l3 : x.f3.length ≤ c3
 g3 : (Kd.int .i64).C w A3 x.f3.length x.f3
 l4 : x.f4.length ≤ c4
 g4 : G.k101.C w A4 x.f4.length x.f4
 l5 : x.f5.length ≤ c5
 g5 : G.k101.C w A5 x.f5.length x.f5
theorem TxC.below {w w' : World} {x : TxD} {A2 A3 A4 A5 : Option Addr} {c2 c3 c4 c5 : Nat} (h : TxC w x A2 c2 A3 c3 A4 c4 A5 c5) (hb : Below w.heap.size w w') : TxC w' x A2 c2 A3 c3 A4 c4 A5 c5 :=
 ⟨h.l2, Kd.C_below h.g2 hb, h.l3, Kd.C_below h.g3 hb, h.l4, Kd.C_below h.g4 hb, h.l5, Kd.C_below h.g5 hb⟩
theorem TxC.le {w : World} {x : TxD} {A2 A3 A4 A5 : Option Addr} {c2 c3 c4 c5 : Nat} (h : TxC w x A2 c2 A3 c3 A4 c4 A5 c5) : TxLe x 9223372036854775807 := ⟨h.g2.2.1, h.g3.2.1, h.g4.2.1, h.g5.2.1⟩
theorem tx_get {w : World} {A : Option Addr} {n : Nat} {l : List TxD} (h : Kd.C G.k26 w A n l) {k : Nat} {x : TxD} (hk : l[k]? = some x) :
  ∃ ad A2 c2 A3 c3 A4 c4 A5 c5, A = some ad ∧ TxAt w (ad.add (k * 6)) x A2 c2 A3 c3 A4 c4 A5 c5 ∧ TxC w x A2 c2 A3 c3 A4 c4 A5 c5 := by
 have hlt : k < n := by
  have := (List.getElem?_eq_some_iff.1 hk).1
  have := h.1
  omega
 obtain ⟨ad, A2, c2, A3, c3, A4, c4, A5, c5, rfl, h0, h1, h2, h3, h4, h5, l2, g2, l3, g3, l4, g4, l5, g5⟩ := G.at_T26 h (k : Int) (by omega) (by omega)
 have e : G.rd_T26 l (k : Int) = x := by unfold G.rd_T26; rw [Int.toNat_natCast, List.getD_eq_getElem?_getD, hk]; rfl
 rw [e] at h0 h1 h2 h3 h4 h5 l2 g2 l3 g3 l4 g4 l5 g5
 rw [Int.toNat_natCast] at h0 h1 h2 h3 h4 h5
 exact ⟨ad, A2, c2, A3, c3, A4, c4, A5, c5, rfl, ⟨h0, h1, h2, h3, h4, h5⟩, ⟨l2, g2, l3, g3, l4, g4, l5, g5⟩⟩
theorem sameTx_is {w : World} (a b : TxD) {A2 A3 A4 A5 B2 B3 B4 B5 : Option Addr} {c2 c3 c4 c5 d2 d3 d4 d5 : Nat} (ha : TxC w a A2 c2 A3 c3 A4 c4 A5 c5) (hb : TxC w b B2 d2 B3 d3 B4 d4 B5 d5) :
  Calls Tryz.prog 142 #[.agg #[.int .i64 a.f0, .int .i64 a.f1, .slice A2 a.f2.length c2, .slice A3 a.f3.length c3, .slice A4 a.f4.length c4, .slice A5 a.f5.length c5], .agg #[.int .i64 b.f0, .int .i64 b.f1, .slice B2 b.f2.length d2, .slice B3 b.f3.length d3, .slice B4 b.f4.length d4, .slice B5 b.f5.length d5]] w fun e w' => e = .returned (.bool (eqTx a b)) ∧ Below w.heap.size w w' :=
 G.record_SameTxn.calls (a.f3.length + a.f4.length + a.f5.length + 1) a.f0 a.f1 A2 c2 a.f2 A3 c3 a.f3 A4 c4 a.f4 A5 c5 a.f5 b.f0 b.f1 B2 d2 b.f2 B3 d3 b.f3 B4 d4 b.f4 B5 d5 b.f5 _ w ha.g2 ha.l2 ha.g3 ha.l3 ha.g4 ha.l4 ha.g5 ha.l5 hb.g2 hb.l2 hb.g3 hb.l3 hb.g4 hb.l4 hb.g5 hb.l5 (sameTxn_p _ a b ha.le ⟨by omega, by omega, by omega⟩)
theorem eqTs_take {a b : List TxD} {i : Nat} {x y : TxD} (hx : a[i]? = some x) (hy : b[i]? = some y) : eqTs (a.drop i) (b.drop i) = (eqTx x y && eqTs (a.drop (i + 1)) (b.drop (i + 1))) := by
 rw [drop_cons hx, drop_cons hy]; rfl
def EqI (a b : List TxD) (w : World) (i : Value) (wr : World) : Prop := ∃ k : Nat, i = .int .i64 k ∧ k ≤ a.length ∧ eqTs a b = eqTs (a.drop k) (b.drop k) ∧ Below w.heap.size w wr
set_option maxHeartbeats 1000000 in
theorem eqfunc_is (A B : Option Addr) (c d : Nat) (a b : List TxD) (w : World) (ha : Kd.C G.k26 w A a.length a) (hb : Kd.C G.k26 w B b.length b) :
  Calls Tryz.prog 141 #[.slice A a.length c, .slice B b.length d, .func (.func 142) #[] #[]] w fun e w' => e = .returned (.bool (eqTs a b)) ∧ Below w.heap.size w w' := by
 have hlm : a.length ≤ 9223372036854775807 := ha.2.1
 have HA := Lib.hid ha; have HB := Lib.hid hb
 clear ha hb
 by_cases hl : a.length = b.length
 ·have hlb : ((a.length : Int) != (b.length : Int)) = false := by rw [bne_eq_false_iff_eq]; omega
  have HL := Lib.hid hl
  clear hl
  go_enter Tryz.func141, Tryz.ntmps141
  go_wp2_with fail
  go_loopw [17] (fun i wr => EqI a b w i wr) (fun i _ => a.length - (intOf i).toNat)
  case atStart => exact ⟨0, rfl, Nat.zero_le _, rfl, Below.refl _ _⟩
  case round =>
   obtain ⟨k, rfl, hk, he, hb⟩ := hrel
   have HE := Lib.hid he; have HBr := Lib.hid hb
   clear he hb
   by_cases hlt : k < a.length
   ·obtain ⟨x, hx⟩ : ∃ x, a[k]? = some x := ⟨_, List.getElem?_eq_getElem hlt⟩
    obtain ⟨y, hy⟩ : ∃ y, b[k]? = some y := ⟨_, List.getElem?_eq_getElem (by have := HL.out; omega)⟩
    obtain ⟨ad, A2, c2, A3, c3, A4, c4, A5, c5, rfl, ⟨x0, x1, x2, x3, x4, x5⟩, hX⟩ := tx_get (Kd.C_below HA.out HBr.out) hx
    obtain ⟨bd, B2, d2, B3, d3, B4, d4, B5, d5, rfl, ⟨y0, y1, y2, y3, y4, y5⟩, hY⟩ := tx_get (Kd.C_below HB.out HBr.out) hy
    have HXX := Lib.hid hX; have HYY := Lib.hid hY
    have HS := Lib.hid (eqTs_take hx hy)
    have hkb : k < b.length := by have := HL.out; omega
    clear hX hY hx hy
    have zb : (bd.add (k * 6)).block < wr.heap.size := World.block_lt_of_cell? _ _ y0
    go_wp2_with fail
    have HB2 := Lib.hid (show Below wr.heap.size wr ((wr.alloc (.cells #[.int .i64 x.f0, .int .i64 x.f1, .slice A2 x.f2.length c2, .slice A3 x.f3.length c3, .slice A4 x.f4.length c4, .slice A5 x.f5.length c5] 26)).alloc (.cells #[.int .i64 y.f0, .int .i64 y.f1, .slice B2 y.f2.length d2, .slice B3 y.f3.length d3, .slice B4 y.f4.length d4, .slice B5 y.f5.length d5] 26)) from ((Below.refl _ _).alloc (Nat.le_refl _) _).alloc (by simp) _)
    refine (sameTx_is x y (HXX.out.below HB2.out) (HYY.out.below HB2.out)).mono ?_
    rintro e w' ⟨rfl, hb⟩
    have HB3 := Lib.hid (HBr.out.trans ((HB2.out.trans (hb.mono HB2.out.size)).mono HBr.out.size))
    clear hb x0 x1 x2 x3 x4 x5 y0 y1 y2 y3 y4 y5 zb
    obtain ⟨q, hq⟩ : ∃ q, eqTx x y = q := ⟨_, rfl⟩
    have HQ := Lib.hid hq
    rw [hq]
    clear hq
    cases q with
    | true =>
     go_wp2_with fail
     go_roundw
     case rel => exact ⟨k + 1, by go_num, hlt, by rw [HE.out, HS.out, HQ.out, Bool.true_and], HB3.out⟩
     case measure => simp [intOf]; omega
    | false =>
     go_wp2_with fail
     go_ret
     exact ⟨by rw [HE.out, HS.out, HQ.out]; rfl, HB3.out⟩
   ·have HF := Lib.hid (show eqTs a b = true by rw [HE.out, List.drop_of_length_le (by omega), List.drop_of_length_le (by have := HL.out; omega)]; rfl)
    go_wp2_with fail
    go_ret
    exact ⟨by rw [HF.out]; rfl, HBr.out⟩
 ·have hlb : ((a.length : Int) != (b.length : Int)) = true := by rw [bne_iff_ne]; omega
  have HF := Lib.hid (eqTs_len hl)
  clear hl
  go_enter Tryz.func141, Tryz.ntmps141
  go_wp2_with fail
  go_ret
  exact ⟨by rw [HF.out]; rfl, Below.refl _ _⟩
set_option maxHeartbeats 1000000 in
theorem sameEn_is (k f n : Int) (A : Option Addr) (c : Nat) (l : List TxD) (k' f' n' : Int) (A' : Option Addr) (c' : Nat) (l' : List TxD) (w : World) (ha : Kd.C G.k26 w A l.length l) (hb : Kd.C G.k26 w A' l'.length l') :
  Calls Tryz.prog 82 #[.agg #[.int .i64 k, .int .i64 f, .int .i64 n, .slice A l.length c], .agg #[.int .i64 k', .int .i64 f', .int .i64 n', .slice A' l'.length c']] w fun e w' => e = .returned (.bool (eqEn k f n l k' f' n' l')) ∧ Below w.heap.size w w' := by
 obtain ⟨q, hq⟩ : ∃ q, eqEn k f n l k' f' n' l' = q := ⟨_, rfl⟩
 have HQ := Lib.hid hq
 rw [hq]
 clear hq
 have HB := Lib.hid (show Below w.heap.size w ((w.alloc (.cells #[.int .i64 k, .int .i64 f, .int .i64 n, .slice A l.length c] 29)).alloc (.cells #[.int .i64 k', .int .i64 f', .int .i64 n', .slice A' l'.length c'] 29)) from ((Below.refl _ _).alloc (Nat.le_refl _) _).alloc (by simp) _)
 have HE := Lib.hid (eqfunc_is A A' c c' l l' _ (Kd.C_below ha HB.out) (Kd.C_below hb HB.out))
 clear ha hb
 cases h0 : (k == k') with
 | false =>
  have HV := Lib.hid (show q = false by rw [← HQ.out]; unfold eqEn; rw [h0, Bool.false_and])
  go_enter Tryz.func82, Tryz.ntmps82
  go_wp2_with fail
  go_ret
  exact ⟨by rw [HV.out]; rfl, HB.out⟩
 | true =>
  cases h1 : (f == f') with
  | false =>
   have HV := Lib.hid (show q = false by rw [← HQ.out]; unfold eqEn; rw [h1, Bool.false_and, Bool.and_false])
   go_enter Tryz.func82, Tryz.ntmps82
   go_wp2_with fail
   go_ret
   exact ⟨by rw [HV.out]; rfl, HB.out⟩
  | true =>
   cases h2 : (n == n') with
   | false =>
    have HV := Lib.hid (show q = false by rw [← HQ.out]; unfold eqEn; rw [h2, Bool.false_and, Bool.and_false, Bool.and_false])
    go_enter Tryz.func82, Tryz.ntmps82
    go_wp2_with fail
    go_ret
    exact ⟨by rw [HV.out]; rfl, HB.out⟩
   | true =>
    have HV := Lib.hid (show q = eqTs l l' by rw [← HQ.out]; unfold eqEn; rw [h0, h1, h2, Bool.true_and, Bool.true_and, Bool.true_and])
    go_enter Tryz.func82, Tryz.ntmps82
    go_wp2_with fail
    refine HE.out.mono ?_
    rintro e w' ⟨rfl, hb⟩
    have HB2 := Lib.hid (HB.out.trans (hb.mono HB.out.size))
    clear hb
    go_wp2_with fail
    go_ret
    exact ⟨by rw [HV.out]; rfl, HB2.out⟩
end Go.Proofs.YtgiefblcckikeaaGreat.M
namespace Go.Proofs.YtgiefblcckikeaaGreat.G
open Go.RowKit Go.Proofs.YtgiefblcckikeaaGreatW.PrintWords Go.Proofs.YtgiefblcckikeaaGreat.M
def record_SameEntry.f (a0_0 a0_1 a0_2 : Int) (l0_3 : List S26) (a1_0 a1_1 a1_2 : Int) (l1_3 : List S26) : Option Bool := some (eqEn a0_0 a0_1 a0_2 l0_3 a1_0 a1_1 a1_2 l1_3)
theorem record_SameEntry.calls (a0_0 a0_1 a0_2 : Int) (A0_3 : Option Addr) (c0_3 : Nat) (l0_3 : List S26) (a1_0 a1_1 a1_2 : Int) (A1_3 : Option Addr) (c1_3 : Nat) (l1_3 : List S26) (r : Bool) (w : World) (hr0_3 : Kd.C k26 w A0_3 l0_3.length l0_3) (hc0_3 : l0_3.length ≤ c0_3) (hr1_3 : Kd.C k26 w A1_3 l1_3.length l1_3) (hc1_3 : l1_3.length ≤ c1_3) (h : record_SameEntry.f a0_0 a0_1 a0_2 l0_3 a1_0 a1_1 a1_2 l1_3 = some r) :
  Calls Tryz.prog 82 #[.agg #[.int .i64 a0_0, .int .i64 a0_1, .int .i64 a0_2, .slice A0_3 l0_3.length c0_3], .agg #[.int .i64 a1_0, .int .i64 a1_1, .int .i64 a1_2, .slice A1_3 l1_3.length c1_3]] w fun e w' => e = .returned (.bool r) ∧ Below w.heap.size w w' := by
 obtain rfl := Option.some.inj h
 exact sameEn_is a0_0 a0_1 a0_2 A0_3 c0_3 l0_3 a1_0 a1_1 a1_2 A1_3 c1_3 l1_3 w hr0_3 hr1_3
end Go.Proofs.YtgiefblcckikeaaGreat.G
end

section
/- record.entry: which entries may be. -/
namespace Go.Proofs.YtgiefblcckikeaaGreat.M
open Go.RowKit Go.Proofs.YtgiefblcckikeaaGreatW.PrintWords Go.Proofs.YtgiefblcckikeaaGreatW.PrintLast Go.Proofs.YtgiefblcckikeaaGreatW.PrintMore Go.Proofs.YtgiefblcckikeaaGreat.G
theorem C_lit (w : World) (xs : List Int) (hm : xs.length ≤ 1000) : Kd.C (Kd.int .i64) (w.alloc (.cells (xs.map (Value.int .i64)).toArray 2)) (some ⟨w.heap.size, 0, none⟩) xs.length xs := by
 have h : Kd.R (Kd.int .i64) 2 (w.alloc (.cells (xs.map (Value.int .i64)).toArray 2)) w.heap.size (fun _ => True) (.slice (some ⟨w.heap.size, 0, none⟩) xs.length xs.length) xs :=
  Kd.R_of_own (own_lit w w.heap.size 2 .i64 xs (Nat.le_refl _) (by omega)) (fun _ _ => trivial)
 exact (Kd.R_reads' h).2.2
def mayT (t : TxD) : Bool := inB 1 1099511627776 [t.f0, t.f1] && (decide (t.f2.length ≤ 512) && (decide (t.f3.length ≤ 8) && (mayK t.f4 && mayK t.f5)))
def mayE (k f n : Int) (l : List TxD) : Bool := if k = 0 then eqEn k f n l 0 0 0 [] else (k == 1 && (inB 0 4 [f] && (inB 0 1099511627776 [n] && (inB 1 16 [(l.length : Int)] && l.all mayT))))
theorem record_txn_f (t : TxD) : G.record_txn.f t.f0 t.f1 t.f2 t.f3 t.f4 t.f5 = some (mayT t) := by
 unfold G.record_txn.f mayT G.record_between.f G.record_keys.f
 simp only [Option.bind_some]
 cases h1 : inB 1 1099511627776 [t.f0, t.f1]
 ·simp
 ·by_cases h2 : t.f2.length ≤ 512
  ·by_cases h3 : t.f3.length ≤ 8
   ·rw [if_pos rfl, if_pos (by omega), if_pos (by omega)]
    cases h4 : mayK t.f4 <;> simp [h2, h3]
   ·rw [if_pos rfl, if_pos (by omega), if_neg (by omega)]
    simp [h3]
  ·rw [if_pos rfl, if_neg (by omega)]
   simp [h2]
theorem mayTx_is {w : World} (a : TxD) {A2 A3 A4 A5 : Option Addr} {c2 c3 c4 c5 : Nat} (ha : TxC w a A2 c2 A3 c3 A4 c4 A5 c5) :
  Calls Tryz.prog 42 #[.agg #[.int .i64 a.f0, .int .i64 a.f1, .slice A2 a.f2.length c2, .slice A3 a.f3.length c3, .slice A4 a.f4.length c4, .slice A5 a.f5.length c5]] w fun e w' => e = .returned (.bool (mayT a)) ∧ Below w.heap.size w w' :=
 G.record_txn.calls a.f0 a.f1 A2 c2 a.f2 A3 c3 a.f3 A4 c4 a.f4 A5 c5 a.f5 _ w ha.g2 ha.l2 ha.g3 ha.l3 ha.g4 ha.l4 ha.g5 ha.l5 (record_txn_f a)
theorem entry1_is {w : World} (a : TxD) {A2 A3 A4 A5 : Option Addr} {c2 c3 c4 c5 : Nat} (ha : TxC w a A2 c2 A3 c3 A4 c4 A5 c5) :
  Calls Tryz.prog 86 #[.agg #[.int .i64 a.f0, .int .i64 a.f1, .slice A2 a.f2.length c2, .slice A3 a.f3.length c3, .slice A4 a.f4.length c4, .slice A5 a.f5.length c5]] w fun e w' => e = .returned (.bool (!mayT a)) ∧ Below w.heap.size w w' := by
 have HB := Lib.hid (show Below w.heap.size w (w.alloc (.cells #[.int .i64 a.f0, .int .i64 a.f1, .slice A2 a.f2.length c2, .slice A3 a.f3.length c3, .slice A4 a.f4.length c4, .slice A5 a.f5.length c5] 26)) from (Below.refl _ _).alloc (Nat.le_refl _) _)
 have HA := Lib.hid (ha.below HB.out)
 clear ha
 go_enter Tryz.func86, Tryz.ntmps86
 go_wp2_with fail
 refine (mayTx_is a HA.out).mono ?_
 rintro e w' ⟨rfl, hb⟩
 have HB2 := Lib.hid (HB.out.trans (hb.mono HB.out.size))
 clear hb
 go_wp2_with fail
 go_ret
 exact ⟨by simp, HB2.out⟩
def TxV (l : List TxD) (w : World) (e : Ending) (w' : World) : Prop := ∃ i : Int, e = .returned (.int .i64 i) ∧ (0 ≤ i ↔ l.all mayT = false) ∧ Below w.heap.size w w'
def TxI (l : List TxD) (w : World) (i : Value) (wr : World) : Prop := ∃ k : Nat, k ≤ l.length ∧ i = .int .i64 k ∧ (l.take k).all mayT = true ∧ Below w.heap.size w wr
set_option maxHeartbeats 1000000 in
theorem tx_index (A : Option Addr) (c : Nat) (l : List TxD) (w : World) (hr : Kd.C G.k26 w A l.length l) :
  Calls Tryz.prog 143 #[.slice A l.length c, .func (.func 86) #[] #[]] w fun e w' => TxV l w e w' := by
 have hlm : l.length ≤ 9223372036854775807 := hr.2.1
 have HR := Lib.hid hr
 clear hr
 go_enter Tryz.func143, Tryz.ntmps143
 go_wp2_with fail
 go_loopw [8] (fun i wr => TxI l w i wr) (fun i _ => l.length - (intOf i).toNat)
 case atStart => exact ⟨0, Nat.zero_le _, rfl, by simp, Below.refl _ _⟩
 case round =>
  obtain ⟨k, hk, rfl, hin, hb⟩ := hrel
  have HIN := Lib.hid hin; have HBr := Lib.hid hb
  clear hin hb
  by_cases hlt : k < l.length
  ·obtain ⟨x, hx⟩ : ∃ x, l[k]? = some x := ⟨_, List.getElem?_eq_getElem hlt⟩
   obtain ⟨ad, A2, c2, A3, c3, A4, c4, A5, c5, rfl, ⟨x0, x1, x2, x3, x4, x5⟩, hX⟩ := tx_get (Kd.C_below HR.out HBr.out) hx
   have HXX := Lib.hid hX
   have HX := Lib.hid (show l.take (k + 1) = l.take k ++ [x] by rw [List.take_add_one, hx]; rfl)
   have HM := Lib.hid (List.mem_of_getElem? hx)
   clear hx hX
   go_wp2_with fail
   refine (entry1_is x HXX.out).mono ?_
   rintro e w' ⟨rfl, hb⟩
   have HB2 := Lib.hid (HBr.out.trans (hb.mono HBr.out.size))
   clear hb
   cases ho : mayT x with
   | false =>
    have HB := Lib.hid (show l.all mayT = false by rw [List.all_eq_false]; exact ⟨x, HM.out, by rw [ho]; simp⟩)
    clear ho
    go_wp2_with fail
    go_ret
    exact ⟨k, rfl, ⟨fun _ => HB.out, fun _ => by omega⟩, HB2.out⟩
   | true =>
    have HB := Lib.hid (show (l.take (k + 1)).all mayT = true by rw [HX.out, List.all_append, HIN.out]; simp [ho])
    clear ho
    go_wp2_with fail
    go_roundw
    case rel => exact ⟨k + 1, hlt, by go_num, HB.out, HB2.out⟩
    case measure => simp [intOf]; omega
  ·have HB := Lib.hid (show l.all mayT = true by have := HIN.out; rwa [List.take_of_length_le (by omega)] at this)
   go_wp2_with fail
   go_ret
   exact ⟨-1, rfl, ⟨fun h => by omega, fun h => by rw [HB.out] at h; cases h⟩, HBr.out⟩
theorem tx_has (A : Option Addr) (c : Nat) (l : List TxD) (w : World) (hr : Kd.C G.k26 w A l.length l) :
  Calls Tryz.prog 85 #[.slice A l.length c, .func (.func 86) #[] #[]] w fun e w' => e = .returned (.bool (!l.all mayT)) ∧ Below w.heap.size w w' := by
 have H := Lib.hid (tx_index A c l w hr)
 clear hr
 go_enter Tryz.func85, Tryz.ntmps85
 go_wp2_with fail
 refine H.out.mono ?_
 rintro e w' ⟨i, rfl, hi, hb⟩
 have HI := Lib.hid hi; have HB := Lib.hid hb
 clear hi hb
 go_wp2_with fail
 go_ret
 refine ⟨?_, HB.out⟩
 show Ending.returned (.bool (decide (0 ≤ i))) = _
 cases hb : l.all mayT with
 | true => rw [decide_eq_false (fun h => by have := HI.out.1 h; rw [hb] at this; cases this)]; rfl
 | false => rw [decide_eq_true (HI.out.2 hb)]; rfl
def EnBox (W : World) (b : Nat) (k f n : Int) (A : Option Addr) (m c : Nat) : Prop := W.heap[b]? = some (.cells #[.int .i64 k, .int .i64 f, .int .i64 n, .slice A m c] 29)
theorem EnBox.cell {W : World} {b : Nat} {k f n : Int} {A : Option Addr} {m c : Nat} (h : EnBox W b k f n A m c) : W.cell? ⟨b, 0, none⟩ = some (.int .i64 k) ∧ W.cell? ⟨b, 1, none⟩ = some (.int .i64 f) ∧ W.cell? ⟨b, 2, none⟩ = some (.int .i64 n) ∧ W.cell? ⟨b, 3, none⟩ = some (.slice A m c) ∧ b < W.heap.size := by
 unfold EnBox at h
 exact ⟨by simp [World.cell?, h], by simp [World.cell?, h], by simp [World.cell?, h], by simp [World.cell?, h], (Array.getElem?_eq_some_iff.1 h).1⟩
theorem EnBox.below {W W' : World} {b : Nat} {k f n : Int} {A : Option Addr} {m c : Nat} (h : EnBox W b k f n A m c) (hb : Below W.heap.size W W') : EnBox W' b k f n A m c := (hb.block b h.cell.2.2.2.2).trans h
theorem below_then {a b c : World} (h : Below a.heap.size a b) (k : Below b.heap.size b c) : Below a.heap.size a c := h.trans (k.mono h.size)
set_option maxHeartbeats 2000000 in
theorem mayEn_is (k f n : Int) (A : Option Addr) (c : Nat) (l : List TxD) (w : World) (hr : Kd.C G.k26 w A l.length l) :
  Calls Tryz.prog 44 #[.agg #[.int .i64 k, .int .i64 f, .int .i64 n, .slice A l.length c]] w fun e w' => e = .returned (.bool (mayE k f n l)) ∧ Below w.heap.size w w' := by
 have hlm : l.length ≤ 9223372036854775807 := hr.2.1
 obtain ⟨q, hq⟩ : ∃ q, mayE k f n l = q := ⟨_, rfl⟩
 have HQ := Lib.hid hq
 rw [hq]
 clear hq
 have HB1 := Lib.hid (show Below w.heap.size w (w.alloc (.cells #[.int .i64 k, .int .i64 f, .int .i64 n, .slice A l.length c] 29)) from (Below.refl _ _).alloc (Nat.le_refl _) _)
 have HX1 := Lib.hid (show EnBox (w.alloc (.cells #[.int .i64 k, .int .i64 f, .int .i64 n, .slice A l.length c] 29)) w.heap.size k f n A l.length c from heap_alloc_new w _)
 have HR1 := Lib.hid (Kd.C_below hr HB1.out)
 clear hr
 cases h0 : (k == 0) with
 | true =>
  have hk0 : k = 0 := by simpa using h0
  subst hk0
  have HV := Lib.hid (show q = eqEn 0 f n l 0 0 0 [] by rw [← HQ.out]; unfold mayE; rw [if_pos rfl])
  have HS := Lib.hid (sameEn_is 0 f n A c l 0 0 0 none 0 [] _ HR1.out (Kd.C_nil _ _))
  simp only [List.length_nil] at HS
  go_enter Tryz.func44, Tryz.ntmps44
  go_wp2_with fail
  refine HS.out.mono ?_
  rintro e w' ⟨rfl, hb⟩
  have HB2 := Lib.hid (below_then HB1.out hb)
  clear hb
  go_wp2_with fail
  go_ret
  exact ⟨by rw [HV.out]; rfl, HB2.out⟩
 | false =>
  have hk0 : k ≠ 0 := by simpa using h0
  have HV := Lib.hid (show q = (k == 1 && (inB 0 4 [f] && (inB 0 1099511627776 [n] && (inB 1 16 [(l.length : Int)] && l.all mayT)))) by rw [← HQ.out]; unfold mayE; rw [if_neg hk0])
  clear hk0
  go_enter Tryz.func44, Tryz.ntmps44
  go_wp2_with fail
  have HB2 := Lib.hid (below_then HB1.out ((Below.refl _ (w.alloc (.cells #[.int .i64 k, .int .i64 f, .int .i64 n, .slice A l.length c] 29))).alloc (Nat.le_refl _) (.cells #[.int .i64 l.length] 2)))
  have HX2 := Lib.hid (HX1.out.below ((Below.refl _ (w.alloc (.cells #[.int .i64 k, .int .i64 f, .int .i64 n, .slice A l.length c] 29))).alloc (Nat.le_refl _) (.cells #[.int .i64 l.length] 2)))
  have HR2 := Lib.hid (Kd.C_below HR1.out ((Below.refl _ (w.alloc (.cells #[.int .i64 k, .int .i64 f, .int .i64 n, .slice A l.length c] 29))).alloc (Nat.le_refl _) (.cells #[.int .i64 l.length] 2)))
  have HL := C_lit (w.alloc (.cells #[.int .i64 k, .int .i64 f, .int .i64 n, .slice A l.length c] 29)) [(l.length : Int)] (by simp)
  simp only [World.size_alloc, List.length_singleton] at HL
  refine (between_is _ 1 [(l.length : Int)] 1 16 _ HL).mono ?_
  rintro e w3 ⟨rfl, hb⟩
  have HB3 := Lib.hid (below_then HB2.out hb); have HX3 := Lib.hid (HX2.out.below hb); have HR3 := Lib.hid (Kd.C_below HR2.out hb)
  clear hb HL
  obtain ⟨b4, hb4⟩ : ∃ b4, inB 1 16 [(l.length : Int)] = b4 := ⟨_, rfl⟩
  rw [hb4] at HV ⊢
  obtain ⟨c0, c1, c2, c3, cz⟩ := HX3.out.cell
  cases h1 : (k == 1) with
  | false =>
   have HW := Lib.hid (show q = false by rw [HV.out, h1, Bool.false_and])
   clear hb4
   go_wp2_with fail
   go_ret
   exact ⟨by rw [HW.out]; rfl, HB3.out⟩
  | true =>
   have HW := Lib.hid (show q = (inB 0 4 [f] && (inB 0 1099511627776 [n] && (b4 && l.all mayT))) by rw [HV.out, h1, Bool.true_and])
   clear hb4
   go_wp2_with fail
   refine (G.record_who.calls f (inB 0 4 [f]) w3 rfl).mono ?_
   rintro e w4 ⟨rfl, hb⟩
   have HB4 := Lib.hid (below_then HB3.out hb); have HX4 := Lib.hid (HX3.out.below hb); have HR4 := Lib.hid (Kd.C_below HR3.out hb)
   clear hb c0 c1 c2 c3 cz
   obtain ⟨c0, c1, c2, c3, cz⟩ := HX4.out.cell
   obtain ⟨b2, hb2⟩ : ∃ b2, inB 0 4 [f] = b2 := ⟨_, rfl⟩
   rw [hb2] at HW ⊢
   clear hb2
   cases b2 with
   | false =>
    have HF := Lib.hid (show q = false by rw [HW.out, Bool.false_and])
    go_wp2_with fail
    go_ret
    exact ⟨by rw [HF.out]; rfl, HB4.out⟩
   | true =>
    go_wp2_with fail
    have HL := C_lit w4 [n] (by simp)
    simp only [List.length_singleton] at HL
    refine (G.record_count.calls _ 1 [n] (inB 0 1099511627776 [n]) _ HL (by simp) rfl).mono ?_
    rintro e w5 ⟨rfl, hb⟩
    have hb' := below_then ((Below.refl _ w4).alloc (Nat.le_refl _) _) hb
    have HB5 := Lib.hid (below_then HB4.out hb'); have HX5 := Lib.hid (HX4.out.below hb'); have HR5 := Lib.hid (Kd.C_below HR4.out hb')
    clear hb hb' HL c0 c1 c2 c3 cz
    obtain ⟨c0, c1, c2, c3, cz⟩ := HX5.out.cell
    obtain ⟨b3, hb3⟩ : ∃ b3, inB 0 1099511627776 [n] = b3 := ⟨_, rfl⟩
    rw [hb3] at HW ⊢
    clear hb3
    cases b3 with
    | false =>
     have HF := Lib.hid (show q = false by rw [HW.out, Bool.false_and, Bool.and_false])
     go_wp2_with fail
     go_ret
     exact ⟨by rw [HF.out]; rfl, HB5.out⟩
    | true =>
     cases b4 with
     | false =>
      have HF := Lib.hid (show q = false by rw [HW.out, Bool.false_and, Bool.and_false, Bool.and_false])
      go_wp2_with fail
      go_ret
      exact ⟨by rw [HF.out]; rfl, HB5.out⟩
     | true =>
      have HF := Lib.hid (show q = l.all mayT by rw [HW.out, Bool.true_and, Bool.true_and, Bool.true_and])
      go_wp2_with fail
      refine (tx_has A c l _ HR5.out).mono ?_
      rintro e w6 ⟨rfl, hb⟩
      have HB6 := Lib.hid (below_then HB5.out hb)
      clear hb
      go_wp2_with fail
      go_ret
      exact ⟨by rw [HF.out]; simp, HB6.out⟩
end Go.Proofs.YtgiefblcckikeaaGreat.M
namespace Go.Proofs.YtgiefblcckikeaaGreat.G
open Go.RowKit Go.Proofs.YtgiefblcckikeaaGreatW.PrintWords Go.Proofs.YtgiefblcckikeaaGreat.M
def record_entry.f (a0_0 a0_1 a0_2 : Int) (l0_3 : List S26) : Option Bool := some (mayE a0_0 a0_1 a0_2 l0_3)
theorem record_entry.calls (a0_0 a0_1 a0_2 : Int) (A0_3 : Option Addr) (c0_3 : Nat) (l0_3 : List S26) (r : Bool) (w : World) (hr0_3 : Kd.C k26 w A0_3 l0_3.length l0_3) (hc0_3 : l0_3.length ≤ c0_3) (h : record_entry.f a0_0 a0_1 a0_2 l0_3 = some r) :
  Calls Tryz.prog 44 #[.agg #[.int .i64 a0_0, .int .i64 a0_1, .int .i64 a0_2, .slice A0_3 l0_3.length c0_3]] w fun e w' => e = .returned (.bool r) ∧ Below w.heap.size w w' := by
 obtain rfl := Option.some.inj h
 exact mayEn_is a0_0 a0_1 a0_2 A0_3 c0_3 l0_3 w hr0_3
end Go.Proofs.YtgiefblcckikeaaGreat.G
end

section
/- The pen: bytes that grow. -/
attribute [local irreducible] Go.wpStill
namespace Go.Proofs.YtgiefblcckikeaaGreat.M
open Go.RowKit Go.Proofs.YtgiefblcckikeaaGreatW.PrintWords Go.Proofs.YtgiefblcckikeaaGreatW.PrintLast Go.Proofs.YtgiefblcckikeaaGreatW.PrintMore Go.Proofs.YtgiefblcckikeaaGreat.G
def IsPen (W : World) (base p : Nat) (l : List Int) : Prop := ∃ (A : Option Addr) (c : Nat), W.heap[p]? = some (.cells #[.slice A l.length c] 75) ∧ base ≤ p ∧ l.length ≤ c ∧ Kd.R (Kd.int .u8) 5 W base (fun i => i ≠ p) (.slice A l.length c) l
theorem IsPen.lt {W : World} {base p : Nat} {l : List Int} (h : IsPen W base p l) : p < W.heap.size := by
 obtain ⟨A, c, h1, _⟩ := h
 exact (Array.getElem?_eq_some_iff.1 h1).1
theorem IsPen.ge {W : World} {base p : Nat} {l : List Int} (h : IsPen W base p l) : base ≤ p := by
 obtain ⟨A, c, h1, h2, _⟩ := h
 exact h2
theorem IsPen.below {W W' : World} {base p : Nat} {l : List Int} (h : IsPen W base p l) (hb : Below W.heap.size W W') : IsPen W' base p l := by
 have hl := h.lt
 obtain ⟨A, c, h1, h2, h3, h4⟩ := h
 exact ⟨A, c, (hb.block p hl).trans h1, h2, h3, Kd.R_step h4 (fun k _ hlt => hb.block k hlt)⟩
theorem isPen_put {W : World} {base p : Nat} {l l' : List Int} {v : Value} (h : IsPen W base p l) {base' : Nat} {ok : Nat → Prop} (hv : Kd.R (Kd.int .u8) 5 W base' ok v l') (hp : p < base') : ∃ (A : Option Addr) (c : Nat), v = .slice A l'.length c ∧ IsPen (W.setCell ⟨p, 0, none⟩ (.slice A l'.length c)) base p l' := by
 obtain ⟨A0, c0, h1, hbp, _, _⟩ := h
 have hv2 := Kd.R_mono (Kd.R_bound hv) (fun k hk => (by have := hk.2.1; omega : k ≠ p))
 obtain ⟨A, c, rfl⟩ := Kd.R_slice hv2
 refine ⟨A, c, rfl, A, c, ?_, hbp, (Kd.R_reads' hv2).2.1, ?_⟩
 ·have := heap_same W ⟨p, 0, none⟩ (.slice A l'.length c) h1 rfl
  simpa using this
 ·exact Kd.R_lower (Kd.R_step hv2 (fun i hi _ => Below.heap_setCell W ⟨p, 0, none⟩ _ i hi)) (by omega)
def PenP (w0 w : World) (p : Nat) (l' : List Int) (e : Ending) (w' : World) : Prop := e = .returned (.tuple #[]) ∧ IsPen w' w0.heap.size p l' ∧ Below w0.heap.size w0 w' ∧ KeepS (fun i => i = p) w w'
set_option maxHeartbeats 1000000 in
theorem nums_is {w0 w : World} {p : Nat} {l : List Int} (hI : IsPen w w0.heap.size p l) (hB : Below w0.heap.size w0 w) (hp : w0.heap.size ≤ p) (B : Option Addr) (c1 : Nat) (ns : List Int) (hr : Kd.C (Kd.int .i64) w B ns.length ns) (ho : okI ns = true) (hs : l.length + 9 * ns.length < 140737488355328) :
  Calls Tryz.prog 95 #[.pointer (some ⟨p, 0, none⟩), .slice B ns.length c1] w fun e w' => PenP w0 w p (l ++ numsB ns) e w' := by
 have HI := Lib.hid hI; have HB := Lib.hid hB; have HP := Lib.hid hp
 obtain ⟨A, c, h1, _, h2, h3⟩ := hI
 have HN := Lib.hid (num_calls A c l B c1 ns w (Kd.R_reads' h3).2.2 h2 hr ho hs)
 have c0 : w.cell? ⟨p, 0, none⟩ = some (.slice A l.length c) := by simp [World.cell?, h1]
 obtain ⟨l2, hl2⟩ : ∃ l2, l ++ numsB ns = l2 := ⟨_, rfl⟩
 rw [hl2] at HN ⊢
 clear h1 h2 h3 hr ho hs hB hp hl2
 go_enter Tryz.func95, Tryz.ntmps95
 go_wp2_with fail
 refine HN.out.mono ?_
 rintro e w1 ⟨v, rfl, hv, hb⟩
 have HI1 := Lib.hid (HI.out.below hb)
 have HB1 := Lib.hid (HB.out.trans (hb.mono HB.out.size))
 have HKK := Lib.hid ((KeepS.of_below (fun i => i = p) hb).set (p := ⟨p, 0, none⟩) (.inl rfl))
 obtain ⟨A', c', rfl, hP⟩ := isPen_put HI1.out hv HI.out.lt
 have HPP := Lib.hid hP
 have d0 : w1.cell? ⟨p, 0, none⟩ = some (.slice A l.length c) := (hb.cell (p := ⟨p, 0, none⟩) HI.out.lt).trans c0
 have d1 : w1.frozen? ⟨p, 0, none⟩ = false := by
  obtain ⟨A2, c2, h4, _⟩ := HI1.out
  simp [World.frozen?, h4]
 clear hb hv hP c0
 go_wp2_with fail
 go_end0
 exact ⟨rfl, HPP.out, HB1.out.setCell (by exact HP.out) _, HKK.out _⟩
theorem many_is {w0 w : World} {p : Nat} {l : List Int} (hI : IsPen w w0.heap.size p l) (hB : Below w0.heap.size w0 w) (hp : w0.heap.size ≤ p) (n : Int) (ho : isI64 n) (hs : l.length + 9 < 140737488355328) :
  Calls Tryz.prog 94 #[.pointer (some ⟨p, 0, none⟩), .int .i64 n] w fun e w' => PenP w0 w p (l ++ numB n) e w' := by
 have HB2 := (Below.refl w.heap.size w).alloc (Nat.le_refl _) (.cells #[.int .i64 n] 2)
 have HN := Lib.hid (nums_is (hI.below HB2) (hB.alloc hB.size _) hp _ 1 [n] (C_lit w [n] (by simp)) (by simp [okI, ho]) (by simpa using hs))
 simp only [List.length_singleton, numsB, List.flatMap_cons, List.flatMap_nil, List.append_nil] at HN
 clear hI hB hp ho hs HB2
 go_enter Tryz.func94, Tryz.ntmps94
 go_wp2_with fail
 refine HN.out.mono ?_
 rintro e w1 ⟨rfl, h1, h2, h3⟩
 have H1 := Lib.hid h1; have H2 := Lib.hid h2
 have H3 := Lib.hid (((KeepS.refl (fun i => i = p) w).alloc (.cells #[.int .i64 n] 2)).trans h3)
 clear h1 h2 h3
 go_wp2_with fail
 go_end0
 exact ⟨rfl, H1.out, H2.out, H3.out⟩
set_option maxHeartbeats 1000000 in
theorem data_is {w0 w : World} {p : Nat} {l : List Int} (hI : IsPen w w0.heap.size p l) (hB : Below w0.heap.size w0 w) (hp : w0.heap.size ≤ p) (B : Option Addr) (c1 : Nat) (bs : List Int) (hr : Kd.C (Kd.int .u8) w B bs.length bs) (hc1 : bs.length ≤ c1) (hs : l.length + bs.length + 9 < 140737488355328) :
  Calls Tryz.prog 100 #[.pointer (some ⟨p, 0, none⟩), .slice B bs.length c1] w fun e w' => PenP w0 w p (l ++ numB bs.length ++ bs) e w' := by
 have HI := Lib.hid hI; have HB := Lib.hid hB; have HP := Lib.hid hp
 obtain ⟨A, c, h1, _, h2, h3⟩ := hI
 have hi : isI64 (bs.length : Int) := by unfold isI64; omega
 have hf : G.shape_Blob.f l bs = some (l ++ numB bs.length ++ bs) := by
  unfold G.shape_Blob.f G.shape_Num.f
  have e1 : okI [(bs.length : Int)] = true := by simp [okI, hi]
  rw [if_pos ⟨e1, by simp; omega⟩]
  have e2 := (numB_len hi).2
  simp only [Option.bind_some, numsB, List.flatMap_cons, List.flatMap_nil, List.append_nil]
  rw [if_pos (by rw [List.length_append]; omega)]
 have HN := Lib.hid (G.shape_Blob.calls A c l B c1 bs _ w (Kd.R_reads' h3).2.2 h2 hr hc1 hf)
 have c0 : w.cell? ⟨p, 0, none⟩ = some (.slice A l.length c) := by simp [World.cell?, h1]
 obtain ⟨l2, hl2⟩ : ∃ l2, l ++ numB bs.length ++ bs = l2 := ⟨_, rfl⟩
 rw [hl2] at HN ⊢
 clear h1 h2 h3 hr hs hB hp hi hf hc1 hl2
 go_enter Tryz.func100, Tryz.ntmps100
 go_wp2_with fail
 refine HN.out.mono ?_
 rintro e w1 ⟨v, rfl, hv, hb⟩
 have HI1 := Lib.hid (HI.out.below hb)
 have HB1 := Lib.hid (HB.out.trans (hb.mono HB.out.size))
 have HKK := Lib.hid ((KeepS.of_below (fun i => i = p) hb).set (p := ⟨p, 0, none⟩) (.inl rfl))
 obtain ⟨A', c', rfl, hP⟩ := isPen_put HI1.out hv HI.out.lt
 have HPP := Lib.hid hP
 have d0 : w1.cell? ⟨p, 0, none⟩ = some (.slice A l.length c) := (hb.cell (p := ⟨p, 0, none⟩) HI.out.lt).trans c0
 have d1 : w1.frozen? ⟨p, 0, none⟩ = false := by
  obtain ⟨A2, c2, h4, _⟩ := HI1.out
  simp [World.frozen?, h4]
 clear hb hv hP c0
 go_wp2_with fail
 go_end0
 exact ⟨rfl, HPP.out, HB1.out.setCell (by exact HP.out) _, HKK.out _⟩
theorem newPen_is (A : Option Addr) (c : Nat) (l : List Int) (w : World) (hr : Kd.C (Kd.int .u8) w A l.length l) (hc : l.length ≤ c) (hl : l.length < 140737488355328) :
  Calls Tryz.prog 46 #[.slice A l.length c] w fun e w' => ∃ p, e = .returned (.pointer (some ⟨p, 0, none⟩)) ∧ IsPen w' w.heap.size p l ∧ Below w.heap.size w w' := by
 have HN := Lib.hid (clone_calls A c l w hr hc hl)
 clear hr hc hl
 go_enter Tryz.func46, Tryz.ntmps46
 go_wp2_with fail
 refine HN.out.mono ?_
 rintro e w1 ⟨v, rfl, hv, hb⟩
 have HB1 := Lib.hid hb
 have hv2 := Kd.R_mono (Kd.R_bound hv) (fun k hk => (by have := hk.2.2.1; omega : k ≠ w1.heap.size))
 obtain ⟨A', c', rfl⟩ := Kd.R_slice hv2
 have HV := Lib.hid hv2
 clear hb hv hv2
 go_wp2_with fail
 go_ret
 refine ⟨w1.heap.size, rfl, ⟨A', c', heap_alloc_new w1 _, HB1.out.size, (Kd.R_reads' HV.out).2.1, ?_⟩, HB1.out.alloc HB1.out.size _⟩
 exact Kd.R_step HV.out (fun k _ hlt => Below.heap_alloc w1 _ k hlt)
end Go.Proofs.YtgiefblcckikeaaGreat.M
end

section
/- Contract of trivet/shape.take. -/
namespace Go.Proofs.YtgiefblcckikeaaGreat.M
open Go.RowKit Go.Proofs.YtgiefblcckikeaaGreatW.PrintWords Go.Proofs.YtgiefblcckikeaaGreatW.PrintLast Go.Proofs.YtgiefblcckikeaaGreatW.PrintMore Go.Proofs.YtgiefblcckikeaaGreat.G
def takeEnd (l : List Int) : Ending := if tkE l = 0 then .returned (.tuple #[.int .i64 (tkN l), .int .i64 (tkS l)]) else .panicked [{ v := wrongV (tkE l), recovered := false }]
theorem takeEnd_bad {l : List Int} {e : Int} (h : tkE l = e) (he : ¬ e = 0) : takeEnd l = .panicked [{ v := wrongV e, recovered := false }] := by
 unfold takeEnd
 rw [h, if_neg he]
theorem takeEnd_good {l : List Int} (h : tkE l = 0) : takeEnd l = .returned (.tuple #[.int .i64 (tkN l), .int .i64 (tkS l)]) := by
 unfold takeEnd
 rw [if_pos h]
set_option maxHeartbeats 1000000 in
theorem take_any (A : Option Addr) (c : Nat) (l : List Int) (w : World) (hr : Kd.C (Kd.int .u8) w A l.length l) (hc : l.length ≤ c) (hb : okB l = true) :
  Calls Tryz.prog 160 #[.slice A l.length c] w fun e w' => e = takeEnd l ∧ w' = w := by
 have HR := Aside0.mk hr
 have HC := Aside0.mk hc
 have HB := Aside0.mk hb
 clear hr hc hb
 obtain ⟨E, hE⟩ : ∃ E, takeEnd l = E := ⟨_, rfl⟩
 rw [hE]
 have HE := Aside0.mk hE
 clear hE
 by_cases h1 : l = []
 ·have he : tkE l = 10 := by unfold tkE; rw [if_pos h1]
  have HF := Aside0.mk (HE.out.symm.trans (takeEnd_bad he (by decide)))
  subst h1
  clear he
  go_enter Tryz.func160, Tryz.ntmps160
  go_wp2_with (go_at_call 123; first | ((with_reducible refine (give_no _ _).mono ?_); rintro e w' ⟨rfl, rfl⟩) | ((with_reducible refine (give_yes _ _).mono ?_); rintro e w' ⟨rfl, rfl⟩))
  exact ⟨rfl, HF.out.symm, rfl⟩
 have hl : 0 < l.length := List.length_pos_iff.2 h1
 have hlz : ((l.length : Int) == 0) = false := beq_eq_false_iff_ne.2 (by omega)
 have hb0 := okB_rd HB.out 0
 obtain ⟨ad, hA, hx0⟩ := Kd.at_int HR.out 0 (by omega) (by omega)
 rw [show ((0 : Int)).toNat = 0 from rfl, Addr.add_zero'] at hx0
 subst hA
 by_cases h2 : 17 < rd l 0 ∨ rd l 0 = 1
 ·have he : tkE l = 11 := by unfold tkE; rw [if_neg h1, if_pos h2]
  have HF := Aside0.mk (HE.out.symm.trans (takeEnd_bad he (by decide)))
  have h3 : decide (17 < rd l 0) = true ∨ (decide (17 < rd l 0) = false ∧ (rd l 0 == 1) = true) := by
   rcases h2 with h | h
   ·exact .inl (decide_eq_true h)
   ·exact .inr ⟨decide_eq_false (by omega), by rw [h]; rfl⟩
  clear h2 he h1
  rcases h3 with h3 | ⟨h3, h4⟩
  all_goals
   go_enter Tryz.func160, Tryz.ntmps160
   go_wp2_with (go_at_call 123; first | ((with_reducible refine (give_no _ _).mono ?_); rintro e w' ⟨rfl, rfl⟩) | ((with_reducible refine (give_yes _ _).mono ?_); rintro e w' ⟨rfl, rfl⟩))
   exact ⟨rfl, HF.out.symm, rfl⟩
 have h3 : decide (17 < rd l 0) = false := decide_eq_false (by omega)
 have h4 : (rd l 0 == 1) = false := beq_eq_false_iff_ne.2 (by omega)
 obtain ⟨k, hk⟩ : ∃ k, tkK l = k := ⟨_, rfl⟩
 have hk8 : k ≤ 8 := by unfold tkK at hk; omega
 have hq : rd l 0 / 2 = (k : Int) := by unfold tkK at hk; omega
 by_cases h5 : l.length ≤ k
 ·have he : tkE l = 10 := by unfold tkE; rw [if_neg h1, if_neg h2, hk, if_pos h5]
  have HF := Aside0.mk (HE.out.symm.trans (takeEnd_bad he (by decide)))
  have h6 : decide (l.length ≤ k) = true := decide_eq_true h5
  clear h2 he h1
  have HK := Lib.hid hk
  clear hk
  go_enter Tryz.func160, Tryz.ntmps160
  go_wp2_with (go_at_call 123; first | ((with_reducible refine (give_no _ _).mono ?_); rintro e w' ⟨rfl, rfl⟩) | ((with_reducible refine (give_yes _ _).mono ?_); rintro e w' ⟨rfl, rfl⟩))
  exact ⟨rfl, HF.out.symm, rfl⟩
 have h6 : decide (l.length ≤ k) = false := decide_eq_false h5
 have hrk : ∀ i : Nat, i ≤ k → w.cell? (ad.add i) = some (.int .u8 (rd l (i : Int))) := by
  intro i hi
  obtain ⟨ad', hA, hx⟩ := Kd.at_int HR.out (i : Int) (by omega) (by omega)
  obtain rfl : ad = ad' := by injection hA
  simpa using hx
 by_cases h7 : 0 < k ∧ rd l k = 0
 ·have he : tkE l = 11 := by unfold tkE; rw [if_neg h1, if_neg h2, hk, if_neg h5, if_pos h7]
  have HF := Aside0.mk (HE.out.symm.trans (takeEnd_bad he (by decide)))
  have hxk := hrk k (Nat.le_refl _)
  obtain ⟨h8, h9⟩ := h7
  rw [h9] at hxk
  have h10 : decide (0 < (k : Int)) = true := decide_eq_true (by omega)
  have h11 : (k : Int) < (l.length : Int) := by omega
  clear h2 he h1 hrk h9
  have HK := Lib.hid hk
  clear hk
  go_enter Tryz.func160, Tryz.ntmps160
  go_wp2_with (go_at_call 123; first | ((with_reducible refine (give_no _ _).mono ?_); rintro e w' ⟨rfl, rfl⟩) | ((with_reducible refine (give_yes _ _).mono ?_); rintro e w' ⟨rfl, rfl⟩))
  exact ⟨rfl, HF.out.symm, rfl⟩
 have h8 : (decide (0 < (k : Int)) = false ∧ k = 0) ∨ (0 < k ∧ (rd l k == 0) = false) := by
  rcases Nat.eq_zero_or_pos k with h | h
  ·exact .inl ⟨decide_eq_false (by omega), h⟩
  ·exact .inr ⟨h, beq_eq_false_iff_ne.2 (fun h' => h7 ⟨h, h'⟩)⟩
 have hxk := hrk k (Nat.le_refl _)
 have h11 : (k : Int) < (l.length : Int) := by omega
 have HP := Aside0.mk (show (if l = [] then (10:Int) else if 17 < rd l 0 ∨ rd l 0 = 1 then 11 else if l.length ≤ tkK l then 10 else if 0 < tkK l ∧ rd l (tkK l) = 0 then 11 else if big63 < tkU l ∨ (tkU l = big63 ∧ rd l 0 % 2 = 0) then 11 else 0) = if big63 < tkU l ∨ (tkU l = big63 ∧ rd l 0 % 2 = 0) then 11 else 0 by rw [if_neg h1, if_neg h2, hk, if_neg h5, if_neg h7])
 have HK := Lib.hid hk
 have HRK := Aside0.mk hrk
 clear hk hrk h2 h5 h7
 go_enter Tryz.func160, Tryz.ntmps160
 rcases h8 with ⟨h8, h9⟩ | ⟨h8, h9⟩
 all_goals
  (try (subst h9; clear h6))
  go_wp2_with (go_at_call 123; first | ((with_reducible refine (give_no _ _).mono ?_); rintro e w' ⟨rfl, rfl⟩) | ((with_reducible refine (give_yes _ _).mono ?_); rintro e w' ⟨rfl, rfl⟩))
  go_loop [5, 6] (fun u i => ∃ (j : Nat) (U : Int), j ≤ tkK l ∧ i = .int .i64 (j : Int) ∧ u = .int .u64 U ∧ Aside0 (U = upFrom l j (tkK l))) (fun _ i => (intOf i).toNat)
  case atStart => exact ⟨tkK l, 0, Nat.le_refl _, by first | (rw [HK.out]; done) | (rw [HK.out]; rfl), rfl, ⟨(upFrom_end _ _).symm⟩⟩
  case round =>
   obtain ⟨j, U, hj, rfl, rfl, HU⟩ := hrel
   have hk8' : tkK l ≤ 8 := by rw [HK.out]; exact hk8
   have hkl : tkK l < l.length := by rw [HK.out]; omega
   by_cases hlt : 0 < j
   ·have hxj := HRK.out j (by rw [← HK.out]; exact hj)
    have hj0 : (0 : Int) ≤ (j : Int) := by omega
    have hj1 : (j : Int) < (l.length : Int) := by omega
    have hbj := okB_rd HB.out (j : Int)
    have HV := Aside0.mk (show bits BinOp.or IntKind.u64 (U * 256) (rd l j) = upFrom l (j - 1) (tkK l) by
     rw [HU.out, or_byte _ _ (upFrom_nonneg HB.out _ _) (upFrom_lt HB.out hlt hk8') hbj.1 hbj.2, upFrom_step hlt hj hkl])
    have hU0 : 0 ≤ U := by rw [HU.out]; exact upFrom_nonneg HB.out _ _
    have hU1 : U < 72057594037927936 := by rw [HU.out]; exact upFrom_lt HB.out hlt hk8'
    go_wp2
    go_round
    case rel =>
     refine ⟨j - 1, _, by omega, by go_num, rfl, ⟨?_⟩⟩
     exact HV.out
    case measure => simp [intOf]; omega
   ·obtain rfl : j = 0 := by omega
    have hU : U = tkU l := by rw [HU.out, upFrom_zero]
    have hu0 : 0 ≤ U := by rw [HU.out]; exact upFrom_nonneg HB.out 0 _
    have hu1 : U < 18446744073709551616 := by rw [HU.out]; exact upFrom_lt8 HB.out (j := 0) hk8'
    have hT : tkE l = if big63 < U ∨ (U = big63 ∧ rd l 0 % 2 = 0) then 11 else 0 := by rw [hU]; exact HP.out
    have hS : tkS l = (tkK l : Int) + 1 := rfl
    rw [HK.out] at hS
    unfold big63 at hT
    have hm : rd l 0 % 2 = 0 ∨ rd l 0 % 2 = 1 := by omega
    rcases hm with hm | hm
    ·by_cases hg : U < 9223372036854775808
     ·have hN : tkN l = U := by unfold tkN; rw [if_neg (by omega), hU]
      have HF := Aside0.mk (HE.out.symm.trans (takeEnd_good (by rw [hT, if_neg (by omega)])))
      rw [hN, hS] at HF
      clear hU HU hN hS hT
      have hg1 : decide (9223372036854775808 < U) = false := decide_eq_false (by omega)
      have hg2 : (U == 9223372036854775808) = false := beq_eq_false_iff_ne.2 (by omega)
      have hw : wrap64 U = U := by unfold wrap64; omega
      go_wp2_with (go_at_call 123; first | ((with_reducible refine (give_no _ _).mono ?_); rintro e w' ⟨rfl, rfl⟩) | ((with_reducible refine (give_yes _ _).mono ?_); rintro e w' ⟨rfl, rfl⟩))
      go_ret2
      exact ⟨HF.out.symm, rfl⟩
     ·have HF := Aside0.mk (HE.out.symm.trans (takeEnd_bad (e := 11) (by rw [hT, if_pos (by omega)]) (by decide)))
      clear hU HU hS hT
      have hg3 : (decide (9223372036854775808 < U) = true) ∨ (decide (9223372036854775808 < U) = false ∧ (U == 9223372036854775808) = true) := by
       by_cases h : 9223372036854775808 < U
       ·exact .inl (decide_eq_true h)
       ·exact .inr ⟨decide_eq_false h, beq_iff_eq.2 (by omega)⟩
      rcases hg3 with hg1 | ⟨hg1, hg2⟩
      all_goals
       go_wp2_with (go_at_call 123; first | ((with_reducible refine (give_no _ _).mono ?_); rintro e w' ⟨rfl, rfl⟩) | ((with_reducible refine (give_yes _ _).mono ?_); rintro e w' ⟨rfl, rfl⟩))
       exact ⟨rfl, HF.out.symm, rfl⟩
    ·by_cases hg : 9223372036854775808 < U
     ·have HF := Aside0.mk (HE.out.symm.trans (takeEnd_bad (e := 11) (by rw [hT, if_pos (by omega)]) (by decide)))
      clear hU HU hS hT
      have hg1 : decide (9223372036854775808 < U) = true := decide_eq_true hg
      go_wp2_with (go_at_call 123; first | ((with_reducible refine (give_no _ _).mono ?_); rintro e w' ⟨rfl, rfl⟩) | ((with_reducible refine (give_yes _ _).mono ?_); rintro e w' ⟨rfl, rfl⟩))
      exact ⟨rfl, HF.out.symm, rfl⟩
     ·have hN : tkN l = wrap64 (IntKind.u64.wrap (-U)) := by
       unfold tkN; rw [if_pos hm, hU, IntKind.wrap_u64]; unfold wrap64; omega
      have HF := Aside0.mk (HE.out.symm.trans (takeEnd_good (by rw [hT, if_neg (by omega)])))
      rw [hN, hS] at HF
      clear hU HU hN hS hT
      have hg1 : decide (9223372036854775808 < U) = false := decide_eq_false (by omega)
      go_wp2_with (go_at_call 123; first | ((with_reducible refine (give_no _ _).mono ?_); rintro e w' ⟨rfl, rfl⟩) | ((with_reducible refine (give_yes _ _).mono ?_); rintro e w' ⟨rfl, rfl⟩))
      ·have h : U = 9223372036854775808 := by assumption
       rw [h] at HF
       go_ret2
       exact ⟨HF.out.symm, rfl⟩
      ·go_ret2
       exact ⟨HF.out.symm, rfl⟩
end Go.Proofs.YtgiefblcckikeaaGreat.M
end

section
/- Contract of trivet/shape.TakeNum. -/
namespace Go.Proofs.YtgiefblcckikeaaGreat.M
open Go.RowKit Go.Proofs.YtgiefblcckikeaaGreatW.PrintWords
def takeNum (l : List Int) : Int × Int × Int := if tkE l = 0 then (tkN l, tkS l, 0) else (0, 0, tkE l)
structure Boxes (b : Nat) (A : Option Addr) (c n : Nat) (z1 z2 : Value) (w : World) : Prop where
 b0 : w.cell? ⟨b, 0, none⟩ = some (.slice A n c)
 n0 : w.cell? ⟨b + 1, 0, none⟩ = some z1
 n1 : w.frozen? ⟨b + 1, 0, none⟩ = false
 s0 : w.cell? ⟨b + 2, 0, none⟩ = some z2
 s1 : w.frozen? ⟨b + 2, 0, none⟩ = false
theorem takenum1 (A : Option Addr) (c : Nat) (l : List Int) (w : World) (hr : Kd.C (Kd.int .u8) w A l.length l) (hc : l.length ≤ c) (hb : okB l = true) (b : Nat) (hx : Boxes b A c l.length (.int .i64 0) (.int .i64 0) w) :
  Calls Tryz.prog 168 #[.pointer (some ⟨b, 0, none⟩), .pointer (some ⟨b + 1, 0, none⟩), .pointer (some ⟨b + 2, 0, none⟩)] w fun e W => Keep2 b w W ∧
   (W.cell? ⟨b + 1, 0, none⟩ = some (.int .i64 (takeNum l).1) ∧ W.cell? ⟨b + 2, 0, none⟩ = some (.int .i64 (takeNum l).2.1) ∧ W.frozen? ⟨b + 1, 0, none⟩ = false ∧ W.frozen? ⟨b + 2, 0, none⟩ = false) ∧
   ((e = .returned (.tuple #[]) ∧ tkE l = 0) ∨ e = .panicked [{ v := wrongV (tkE l), recovered := false }]) := by
 have HT := Lib.hid (take_any A c l w hr hc hb)
 obtain ⟨hb0, hn0, hn1, hs0, hs1⟩ := hx
 by_cases he : tkE l = 0
 ·have HE := Aside0.mk (takeEnd_good he)
  have HZ := Aside0.mk he
  have HN := Aside0.mk (show takeNum l = (tkN l, tkS l, 0) by unfold takeNum; rw [if_pos he])
  clear he
  go_enter Tryz.func168, Tryz.ntmps168
  go_wp2_with (go_at_call 160; refine HT.out.mono ?_; rintro e w' ⟨rfl, rfl⟩; rw [HE.out])
  go_end0
  rw [HN.out]
  exact ⟨((Keep2.refl _ _).set1 _).set2 _, ⟨by simp [go_sem, hn0], by simp [go_sem, hs0], by simp [go_sem, hn1], by simp [go_sem, hs1]⟩, .inl ⟨rfl, HZ.out⟩⟩
 ·have HE := Aside0.mk (takeEnd_bad rfl he)
  have HN := Aside0.mk (show takeNum l = (0, 0, tkE l) by unfold takeNum; rw [if_neg he])
  clear he
  go_enter Tryz.func168, Tryz.ntmps168
  go_wp2_with (go_at_call 160; refine HT.out.mono ?_; rintro e w' ⟨rfl, rfl⟩; rw [HE.out])
  rw [HN.out]
  exact ⟨rfl, Keep2.refl _ _, ⟨hn0, hs0, hn1, hs1⟩, .inr rfl⟩
theorem takeNum_calls (A : Option Addr) (c : Nat) (l : List Int) (w : World) (hr : Kd.C (Kd.int .u8) w A l.length l) (hc : l.length ≤ c) (hb : okB l = true) :
  Calls Tryz.prog 153 #[.slice A l.length c] w fun e w' => e = .returned (.tuple #[.int .i64 (takeNum l).1, .int .i64 (takeNum l).2.1, .int .i64 (takeNum l).2.2]) ∧ Below w.heap.size w w' := by
 have HR := Aside0.mk hr
 have HC := Aside0.mk hc
 have HB := Aside0.mk hb
 clear hr hc hb
 have hmf : ∀ (fn : Fn) (first cap : Array Value) (w : World), (Instr.makeFunc fn first cap).run Tryz.prog w = .ok (.func fn first cap) w := fun _ _ _ _ => rfl
 go_enter Tryz.func153, Tryz.ntmps153
 go_wp2_with fail
 have HX : Boxes w.heap.size A c l.length (.int .i64 0) (.int .i64 0) ((((w.alloc (.cells #[.slice A l.length c] 23)).alloc (.cells #[.int .i64 0] 2)).alloc (.cells #[.int .i64 0] 3)).alloc (.cells #[.int .i64 0] 36)) := by
  constructor <;> simp [go_sem]
 refine (try_calls 168 _ w.heap.size _ _ (tkE l) (by simp) (enter_any _ _ _ Tryz.func168 rfl (by kernel_rfl))
  (takenum1 A c l _ (Kd.C_alloc (Kd.C_alloc (Kd.C_alloc (Kd.C_alloc HR.out _) _) _) _) HC.out HB.out w.heap.size HX)).mono ?_
 rintro e w1 ⟨W, ⟨hn, hs, hnf, hsf⟩, rfl, hk, hz, hbl, _⟩
 have hn1 : w1.cell? ⟨w.heap.size + 1, 0, none⟩ = some (.int .i64 (takeNum l).1) := (hbl.cell (by simp)).trans hn
 have hs1 : w1.cell? ⟨w.heap.size + 1 + 1, 0, none⟩ = some (.int .i64 (takeNum l).2.1) := (hbl.cell (by simp)).trans hs
 have hnf1 : w1.frozen? ⟨w.heap.size + 1, 0, none⟩ = false := (hbl.frozen (by simp)).trans hnf
 have hsf1 : w1.frozen? ⟨w.heap.size + 1 + 1, 0, none⟩ = false := (hbl.frozen (by simp)).trans hsf
 have HBL := Aside0.mk (show Below w.heap.size w w1 from
  (((((Below.refl w.heap.size w).alloc (Nat.le_refl _) _).alloc (by simp) _).alloc (by simp; omega) _).trans (hk.below (by omega) (by simp; omega))).trans (hbl.mono (by simp; omega)))
 have HT := Aside0.mk (show tkE l = (takeNum l).2.2 by unfold takeNum; split <;> simp [*])
 clear hn hs hnf hsf hk hz hbl HX
 go_wp2
 go_region
 all_goals
  go_wp2
  refine bodyPost_ret (v := .tuple #[.int .i64 (takeNum l).1, .int .i64 (takeNum l).2.1, .int .i64 (tkE l)]) (by simp [results, Tryz.results153, go_sem, hn1, hs1]) rfl ⟨by rw [HT.out], ?_⟩
  repeat first | exact HBL.out | exact (by assumption) | apply Below.drew | refine Below.setCell ?_ (by first | (simp; done) | (simp; omega)) _
end Go.Proofs.YtgiefblcckikeaaGreat.M
namespace Go.Proofs.YtgiefblcckikeaaGreat.G
open Go.RowKit Go.Proofs.YtgiefblcckikeaaGreatW.PrintWords Go.Proofs.YtgiefblcckikeaaGreat.M
def shape_TakeNum.f (l0 : List Int) : Option (Int × Int × Int) := if okB l0 = true then some (takeNum l0) else none
theorem shape_TakeNum.calls (A0 : Option Addr) (c0 : Nat) (l0 : List Int) (r1 : Int) (r2 : Int) (r3 : Int) (w : World) (hr0 : Kd.C (Kd.int .u8) w A0 l0.length l0) (hc0 : l0.length ≤ c0) (h : shape_TakeNum.f l0 = some (r1, r2, r3)) :
  Calls Tryz.prog 153 #[.slice A0 l0.length c0] w fun e w' => e = .returned (.tuple #[.int .i64 r1, .int .i64 r2, .int .i64 r3]) ∧ Below w.heap.size w w' := by
 unfold shape_TakeNum.f at h
 split at h
 ·rename_i hb
  have h := Option.some.inj h
  have h1 : r1 = (takeNum l0).1 := by rw [h]
  have h2 : r2 = (takeNum l0).2.1 := by rw [h]
  have h3 : r3 = (takeNum l0).2.2 := by rw [h]
  rw [h1, h2, h3]
  exact takeNum_calls A0 c0 l0 w hr0 hc0 hb
 ·cases h
end Go.Proofs.YtgiefblcckikeaaGreat.G
end

section
/- Contracts of trivet/shape.blob and trivet/shape.TakeBlob. -/
namespace Go.Proofs.YtgiefblcckikeaaGreat.M
open Go.RowKit Go.Proofs.YtgiefblcckikeaaGreatW.PrintWords
theorem tkN_bound {l : List Int} (hb : okB l = true) (h : tkE l = 0) : -9223372036854775808 ≤ tkN l ∧ tkN l ≤ 9223372036854775807 := by
 have h0 : 0 ≤ tkU l := by rw [← upFrom_zero]; exact upFrom_nonneg hb _ _
 unfold tkE at h
 split at h
 ·omega
 ·split at h
  ·omega
  ·split at h
   ·omega
   ·split at h
    ·omega
    ·split at h
     ·omega
     ·rename_i hh
      unfold big63 at hh
      unfold tkN
      have hr := okB_rd hb 0
      split
      ·unfold wrap64; omega
      ·omega
def blobV (A : Option Addr) (c : Nat) (l : List Int) : Value := .slice (if c = (blLo l).toNat then A else A.map (·.add ((blLo l).toNat * 1))) ((blHi l).toNat - (blLo l).toNat) (c - (blLo l).toNat)
set_option maxHeartbeats 1000000 in
theorem blob_any (A : Option Addr) (c : Nat) (l : List Int) (most more : Int) (w : World) (hr : Kd.C (Kd.int .u8) w A l.length l) (hc : l.length ≤ c) (hb : okB l = true) (hm0 : 0 ≤ more) (hm1 : more ≤ 8) (hlen : l.length < 140737488355328) :
  Calls Tryz.prog 122 #[.slice A l.length c, .int .i64 most, .int .i64 more] w fun e w' => w = w' ∧
   ((blE l most more = 0 ∧ e = .returned (.tuple #[blobV A c l, .int .i64 (blHi l)])) ∨ (¬ blE l most more = 0 ∧ e = .panicked [{ v := wrongV (blE l most more), recovered := false }])) := by
 have HT := Lib.hid (take_any A c l w hr hc hb)
 have HR := Aside0.mk hr
 have HBD := Aside0.mk (fun h => tkN_bound hb h)
 have HSZ := Aside0.mk (fun h => tkE_size (l := l) h)
 clear hr hb
 by_cases he : tkE l = 0
 ·have HE := Aside0.mk (takeEnd_good he)
  have hn := HBD.out he
  have hs := HSZ.out he
  have hs1 := tkS_pos l
  obtain ⟨n, HN⟩ : ∃ n, Aside0 (tkN l = n) := ⟨_, ⟨rfl⟩⟩
  obtain ⟨s, HS⟩ : ∃ s, Aside0 (tkS l = s) := ⟨_, ⟨rfl⟩⟩
  rw [HN.out, HS.out] at HE
  rw [HN.out] at hn
  rw [HS.out] at hs hs1
  have HBE := Aside0.mk (show blE l most more = if n < 0 then 11 else if most < n then 3 else if (l.length : Int) - s - more < n then 10 else 0 by unfold blE; rw [if_neg (by omega), HN.out, HS.out])
  clear he HBD HSZ
  by_cases h1 : n < 0
  ·have HZ := Aside0.mk (HBE.out.trans (if_pos h1))
   go_enter Tryz.func122, Tryz.ntmps122
   go_wp2_with (first | (go_at_call 160; refine HT.out.mono ?_; rintro e w' ⟨rfl, rfl⟩; rw [HE.out]) | (go_at_call 123; first | ((with_reducible refine (give_no _ _).mono ?_); rintro e w' ⟨rfl, rfl⟩) | ((with_reducible refine (give_yes _ _).mono ?_); rintro e w' ⟨rfl, rfl⟩)))
   exact ⟨rfl, rfl, .inr ⟨by rw [HZ.out]; decide, by rw [HZ.out]⟩⟩
  have g1 : decide (n < 0) = false := decide_eq_false h1
  by_cases h2 : most < n
  ·have HZ := Aside0.mk (HBE.out.trans ((if_neg h1).trans (if_pos h2)))
   go_enter Tryz.func122, Tryz.ntmps122
   go_wp2_with (first | (go_at_call 160; refine HT.out.mono ?_; rintro e w' ⟨rfl, rfl⟩; rw [HE.out]) | (go_at_call 123; first | ((with_reducible refine (give_no _ _).mono ?_); rintro e w' ⟨rfl, rfl⟩) | ((with_reducible refine (give_yes _ _).mono ?_); rintro e w' ⟨rfl, rfl⟩)))
   exact ⟨rfl, rfl, .inr ⟨by rw [HZ.out]; decide, by rw [HZ.out]⟩⟩
  have g2 : decide (most < n) = false := decide_eq_false h2
  by_cases h3 : (l.length : Int) - s - more < n
  ·have HZ := Aside0.mk (HBE.out.trans ((if_neg h1).trans ((if_neg h2).trans (if_pos h3))))
   go_enter Tryz.func122, Tryz.ntmps122
   go_wp2_with (first | (go_at_call 160; refine HT.out.mono ?_; rintro e w' ⟨rfl, rfl⟩; rw [HE.out]) | (go_at_call 123; first | ((with_reducible refine (give_no _ _).mono ?_); rintro e w' ⟨rfl, rfl⟩) | ((with_reducible refine (give_yes _ _).mono ?_); rintro e w' ⟨rfl, rfl⟩)))
   exact ⟨rfl, rfl, .inr ⟨by rw [HZ.out]; decide, by rw [HZ.out]⟩⟩
  have HZ := Aside0.mk (HBE.out.trans ((if_neg h1).trans ((if_neg h2).trans (if_neg h3))))
  have g3 : decide ((l.length : Int) - s - more < n) = false := decide_eq_false h3
  obtain ⟨i0, hi, hz0, hz1, hz2⟩ := info_parts infoU8
  have hcut := cut_mid (P := Tryz.prog) 23 5 .i64 .i64 Tryz.underlying23 hi 1 hz1 A l.length c s (s + n) (by omega) (by omega) (by omega) hc
  have hV0 : blobV A c l = .slice (if c = s.toNat then A else A.map (·.add (s.toNat * 1))) ((s + n).toNat - s.toNat) (c - s.toNat) := by unfold blobV blHi blLo; rw [HS.out, HN.out]
  rw [← hV0] at hcut
  clear hV0
  have HH := Aside0.mk (show blHi l = s + n by unfold blHi; rw [HS.out, HN.out])
  clear hi hz0 hz1 hz2
  go_enter Tryz.func122, Tryz.ntmps122
  go_wp2_with (first | (go_at_call 160; refine HT.out.mono ?_; rintro e w' ⟨rfl, rfl⟩; rw [HE.out]) | (go_at_call 123; first | ((with_reducible refine (give_no _ _).mono ?_); rintro e w' ⟨rfl, rfl⟩) | ((with_reducible refine (give_yes _ _).mono ?_); rintro e w' ⟨rfl, rfl⟩)))
  go_ret2
  exact ⟨rfl, .inl ⟨HZ.out, by rw [HH.out]; rfl⟩⟩
 ·have HE := Aside0.mk (takeEnd_bad rfl he)
  have HZ := Aside0.mk (show blE l most more = tkE l by unfold blE; rw [if_pos he])
  have HZ2 := Aside0.mk he
  clear he HBD HSZ
  go_enter Tryz.func122, Tryz.ntmps122
  go_wp2_with (go_at_call 160; refine HT.out.mono ?_; rintro e w' ⟨rfl, rfl⟩; rw [HE.out])
  exact ⟨rfl, rfl, .inr ⟨by rw [HZ.out]; exact HZ2.out, by rw [HZ.out]⟩⟩
theorem blD_length {l : List Int} (h : 1 ≤ blLo l ∧ blLo l ≤ blHi l ∧ blHi l ≤ (l.length : Int)) : (blD l).length = (blHi l).toNat - (blLo l).toNat := by
 unfold blD
 rw [List.length_drop, List.length_take]
 omega
theorem blobV_form {A : Option Addr} {c : Nat} {l : List Int} {w : World} (hr : Kd.C (Kd.int .u8) w A l.length l) (hc : l.length ≤ c) (h : 1 ≤ blLo l ∧ blLo l ≤ blHi l ∧ blHi l ≤ (l.length : Int)) :
  ∃ A' c', blobV A c l = .slice A' (blD l).length c' ∧ (blD l).length ≤ c' ∧ Kd.C (Kd.int .u8) w A' (blD l).length (blD l) := by
 refine ⟨_, c - (blLo l).toNat, ?_, ?_, Kd.C_mid (c := c) hr (by omega : (blLo l).toNat ≤ (blHi l).toNat) (by omega) hc⟩
 ·unfold blobV
  rw [blD_length h]
  rfl
 ·rw [blD_length h]; omega
theorem Own.set {W : World} {base : Nat} {v : Value} {l : List Int} (h : Own W base v l) {p : Addr} (hp : p.block < base) (u : Value) : Own (W.setCell p u) base v l :=
 Kd.R_mono (Kd.R_far (Kd.R_bound h) (p := p) (fun k hk e => by have := hk.2.1; omega) u) (fun _ _ => trivial)
theorem Own.below {W W' : World} {base : Nat} {v : Value} {l : List Int} (h : Own W base v l) (hb : Below W.heap.size W W') : Own W' base v l := Kd.R_below h hb
theorem Own.lower {W : World} {base base' : Nat} {v : Value} {l : List Int} (h : Own W base v l) (hb : base' ≤ base) : Own W base' v l := Kd.R_lower h hb
theorem Own.drew {W : World} {base : Nat} {v : Value} {l : List Int} (h : Own W base v l) : Own W.drew base v l := Kd.R_drew h
theorem Own.nil (W : World) (base : Nat) : Own W base (.slice none 0 0) [] := Kd.R_nil _ _ _ _ _
theorem Own.form {W : World} {base : Nat} {v : Value} {l : List Int} (h : Own W base v l) : ∃ A c, v = .slice A l.length c := Kd.R_slice h
theorem C_cells_imp {w W : World} {k : IntKind} {A : Option Addr} {n : Nat} {l : List Int} (h : Kd.C (Kd.int k) w A n l) (hk : ∀ (p : Addr) (x : Int), w.cell? p = some (.int k x) → W.cell? p = some (.int k x)) : Kd.C (Kd.int k) W A n l := by
 obtain ⟨h1, h2, h3⟩ := Kd.reads_of_C (d := (0 : Int)) h
 refine Kd.C_of_reads (d := (0 : Int)) (h1 := fun _ => rfl) ⟨h1, h2, fun hp => ?_⟩
 obtain ⟨ad, e, hc⟩ := h3 hp
 exact ⟨ad, e, fun j hj => hk _ _ (hc j hj)⟩
theorem C_over1 {w : World} {k : IntKind} {A : Option Addr} {n : Nat} {l : List Int} (h : Kd.C (Kd.int k) w A n l) {q : Addr} {z u : Value} (h1 : w.cell? q = some z) (hz : ∀ x, z ≠ .int k x) : Kd.C (Kd.int k) (w.setCell q u) A n l :=
 C_cells_imp h fun p x hp => (World.cell?_setCell_other _ _ _ _ (fun e => by subst e; rw [h1] at hp; exact hz x (Option.some.inj hp))).trans hp
def big62 : Int := 9223372036854775807
def takeBlob (l : List Int) : List Int × Int × Int := if blE l big62 0 = 0 then (blD l, blHi l, 0) else ([], 0, blE l big62 0)
set_option maxHeartbeats 1000000 in
theorem takeblob1 (A : Option Addr) (c : Nat) (l : List Int) (w : World) (hr : Kd.C (Kd.int .u8) w A l.length l) (hc : l.length ≤ c) (hb : okB l = true) (hlen : l.length < 140737488355328) (b : Nat) (hx : Boxes b A c l.length (.slice none 0 0) (.int .i64 0) w) (hbs : b + 3 ≤ w.heap.size) :
  Calls Tryz.prog 170 #[.pointer (some ⟨b, 0, none⟩), .pointer (some ⟨b + 1, 0, none⟩), .pointer (some ⟨b + 2, 0, none⟩)] w fun e W => Keep2 b w W ∧
   (∃ v, W.cell? ⟨b + 1, 0, none⟩ = some v ∧ W.cell? ⟨b + 2, 0, none⟩ = some (.int .i64 (takeBlob l).2.1) ∧ W.frozen? ⟨b + 1, 0, none⟩ = false ∧ W.frozen? ⟨b + 2, 0, none⟩ = false ∧ Own W w.heap.size v (takeBlob l).1) ∧
   ((e = .returned (.tuple #[]) ∧ blE l big62 0 = 0) ∨ e = .panicked [{ v := wrongV (blE l big62 0), recovered := false }]) := by
 have hT := blob_any A c l big62 0 w hr hc hb (by decide) (by decide) hlen
 obtain ⟨hb0, hn0, hn1, hs0, hs1⟩ := hx
 by_cases he : blE l big62 0 = 0
 ·obtain ⟨g1, g2, g3, g4, g5, g6⟩ := blE_good he
  obtain ⟨A', c', hV, hc', hr'⟩ := blobV_form hr hc ⟨g6, g5, by omega⟩
  have hl' : (blD l).length < 140737488355328 := by rw [blD_length ⟨g6, g5, by omega⟩]; omega
  have HN := Aside0.mk (show takeBlob l = (blD l, blHi l, 0) by unfold takeBlob; rw [if_pos he])
  have HZ := Aside0.mk he
  have HT := Lib.hid (hT.mono (R' := fun e w' => w = w' ∧ e = .returned (.tuple #[.slice A' (blD l).length c', .int .i64 (blHi l)])) (by
   rintro e w' ⟨rfl, ⟨_, rfl⟩ | ⟨h, _⟩⟩
   ·exact ⟨rfl, by rw [hV]⟩
   ·exact absurd he h))
  have HR := Aside0.mk hr'
  clear he hV hr' g1 g2 g3 g4 g5 g6 hr hT
  unfold big62 at HT
  go_enter Tryz.func170, Tryz.ntmps170
  go_wp2_with (go_at_call 122; refine HT.out.mono ?_; rintro e w' ⟨rfl, rfl⟩)
  refine (clone_calls A' c' (blD l) _ (C_over1 (C_over1 HR.out hn0 (by simp)) (z := .int .i64 0) (by rw [World.cell?_setCell_other _ _ _ _ (by simp)]; exact hs0) (by simp)) hc' hl').mono ?_
  rintro e w1 ⟨v, rfl, ho, hbl⟩
  obtain ⟨Av, cv, rfl⟩ := ho.form
  have HO := Aside0.mk ho
  have HBL := Aside0.mk hbl
  have k1 : w1.cell? ⟨b + 1, 0, none⟩ = some (.slice A' (blD l).length c') := by
   rw [hbl.cell (by simp [World.setCell]; omega), World.cell?_setCell_other _ _ _ _ (by simp)]; exact World.cell?_setCell_same' _ _ _ (by rw [hn0]; rfl)
  have k2 : w1.cell? ⟨b + 2, 0, none⟩ = some (.int .i64 (blHi l)) := by
   rw [hbl.cell (by simp [World.setCell]; omega)]; exact World.cell?_setCell_same' _ _ _ (by rw [World.cell?_setCell_other _ _ _ _ (by simp), hs0]; rfl)
  have k3 : w1.frozen? ⟨b + 1, 0, none⟩ = false := by
   rw [hbl.frozen (by simp [World.setCell]; omega)]; simp [hn1]
  have k4 : w1.frozen? ⟨b + 2, 0, none⟩ = false := by
   rw [hbl.frozen (by simp [World.setCell]; omega)]; simp [hs1]
  clear ho hbl
  go_wp2
  go_end0
  rw [HN.out]
  refine ⟨(((Keep2.refl b w).set1 _).set2 _ |>.trans (Keep2.of_below HBL.out)).set1 _, ⟨_, World.cell?_setCell_same' _ _ _ (by rw [k1]; rfl), ?_, ?_, ?_, ?_⟩, .inl ⟨rfl, HZ.out⟩⟩
  ·rw [World.cell?_setCell_other _ _ _ _ (by simp)]; exact k2
  ·simp [k3]
  ·simp [k4]
  ·exact (HO.out.lower (by simp [World.setCell])).set (p := ⟨b + 1, 0, none⟩) (by show b + 1 < _; omega) _
 ·have HN := Aside0.mk (show takeBlob l = ([], 0, blE l big62 0) by unfold takeBlob; rw [if_neg he])
  have HT := Lib.hid (hT.mono (R' := fun e w' => w = w' ∧ e = .panicked [{ v := wrongV (blE l big62 0), recovered := false }]) (by
   rintro e w' ⟨rfl, ⟨h, _⟩ | ⟨_, rfl⟩⟩
   ·exact absurd h he
   ·exact ⟨rfl, rfl⟩))
  clear he hr hT
  obtain ⟨er, HER⟩ : ∃ er, Aside0 (blE l big62 0 = er) := ⟨_, ⟨rfl⟩⟩
  rw [HER.out] at HT HN ⊢
  unfold big62 at HT
  go_enter Tryz.func170, Tryz.ntmps170
  go_wp2_with (go_at_call 122; refine HT.out.mono ?_; rintro e w' ⟨rfl, rfl⟩)
  rw [HN.out]
  exact ⟨rfl, Keep2.refl _ _, ⟨_, hn0, hs0, hn1, hs1, Own.nil _ _⟩, .inr rfl⟩
end Go.Proofs.YtgiefblcckikeaaGreat.M
namespace Go.Proofs.YtgiefblcckikeaaGreat.M
open Go.RowKit Go.Proofs.YtgiefblcckikeaaGreatW.PrintWords
theorem takeBlob_calls (A : Option Addr) (c : Nat) (l : List Int) (w : World) (hr : Kd.C (Kd.int .u8) w A l.length l) (hc : l.length ≤ c) (hb : okB l = true) (hlen : l.length < 140737488355328) :
  Calls Tryz.prog 161 #[.slice A l.length c] w fun e w' => ∃ v0_ : Value, e = .returned (.tuple #[v0_, .int .i64 (takeBlob l).2.1, .int .i64 (takeBlob l).2.2]) ∧ Own w' w.heap.size v0_ (takeBlob l).1 ∧ Below w.heap.size w w' := by
 have HR := Aside0.mk hr
 have HC := Aside0.mk hc
 have HB := Aside0.mk hb
 have HL := Aside0.mk hlen
 clear hr hc hb hlen
 have hmf : ∀ (fn : Fn) (first cap : Array Value) (w : World), (Instr.makeFunc fn first cap).run Tryz.prog w = .ok (.func fn first cap) w := fun _ _ _ _ => rfl
 go_enter Tryz.func161, Tryz.ntmps161
 go_wp2_with fail
 have HX : Boxes w.heap.size A c l.length (.slice none 0 0) (.int .i64 0) ((((w.alloc (.cells #[.slice A l.length c] 23)).alloc (.cells #[.slice none 0 0] 23)).alloc (.cells #[.int .i64 0] 3)).alloc (.cells #[.int .i64 0] 36)) := by
  constructor <;> simp [go_sem]
 refine (try_calls 170 _ w.heap.size _ _ (blE l big62 0) (by simp) (enter_any _ _ _ Tryz.func170 rfl (by kernel_rfl))
  (takeblob1 A c l _ (Kd.C_alloc (Kd.C_alloc (Kd.C_alloc (Kd.C_alloc HR.out _) _) _) _) HC.out HB.out HL.out w.heap.size HX (by simp))).mono ?_
 rintro e w1 ⟨W, ⟨v, hn, hs, hnf, hsf, ho⟩, rfl, hk, hz, hbl, hg⟩
 simp only [World.size_alloc] at hz hbl hg ho
 obtain ⟨Av, cv, rfl⟩ := ho.form
 have hn1 : w1.cell? ⟨w.heap.size + 1, 0, none⟩ = some (.slice Av (takeBlob l).1.length cv) := (hbl.cell (by simp)).trans hn
 have hs1 : w1.cell? ⟨w.heap.size + 1 + 1, 0, none⟩ = some (.int .i64 (takeBlob l).2.1) := (hbl.cell (by simp)).trans hs
 have hnf1 : w1.frozen? ⟨w.heap.size + 1, 0, none⟩ = false := (hbl.frozen (by simp)).trans hnf
 have hsf1 : w1.frozen? ⟨w.heap.size + 1 + 1, 0, none⟩ = false := (hbl.frozen (by simp)).trans hsf
 have HO1 := Aside0.mk (show Own w1 (w.heap.size + 1 + 1 + 1 + 1) (.slice Av (takeBlob l).1.length cv) (takeBlob l).1 from
  Kd.R_mono (Kd.R_grown (Kd.R_bound ho) hg (fun k hk e => by have := hk.2.1; have := Option.some.inj e; omega)) (fun _ _ => trivial))
 have HBL := Aside0.mk (show Below w.heap.size w w1 from
  (((((Below.refl w.heap.size w).alloc (Nat.le_refl _) _).alloc (by simp) _).alloc (by simp; omega) _).trans (hk.below (by omega) (by simp; omega))).trans (hbl.mono (by omega)))
 have HT := Aside0.mk (show blE l big62 0 = (takeBlob l).2.2 by unfold takeBlob; split <;> simp [*])
 obtain ⟨er, her⟩ : ∃ er, blE l big62 0 = er := ⟨_, rfl⟩
 rw [her] at HT ⊢
 clear hn hs hnf hsf hk hz hbl HX hg ho her
 go_wp2
 go_region
 all_goals
  go_wp2
  refine bodyPost_ret (v := .tuple #[.slice Av (takeBlob l).1.length cv, .int .i64 (takeBlob l).2.1, .int .i64 er]) (by simp [results, Tryz.results161, go_sem, hn1, hs1]) rfl ⟨_, by rw [HT.out], ?_, ?_⟩
  ·refine Own.lower (base := w.heap.size + 1 + 1 + 1 + 1) ?_ (by omega)
   repeat first | exact HO1.out | apply Own.drew | refine Own.set ?_ (by first | (simp; done) | (simp; omega)) _
  ·repeat first | exact HBL.out | exact (by assumption) | apply Below.drew | refine Below.setCell ?_ (by first | (simp; done) | (simp; omega)) _
end Go.Proofs.YtgiefblcckikeaaGreat.M
namespace Go.Proofs.YtgiefblcckikeaaGreat.G
open Go.RowKit Go.Proofs.YtgiefblcckikeaaGreatW.PrintWords Go.Proofs.YtgiefblcckikeaaGreat.M
def shape_TakeBlob.f (l0 : List Int) : Option (List Int × Int × Int) := if okB l0 = true ∧ l0.length < 140737488355328 then some (takeBlob l0) else none
theorem shape_TakeBlob.calls (A0 : Option Addr) (c0 : Nat) (l0 : List Int) (r1 : List Int) (r2 : Int) (r3 : Int) (w : World) (hr0 : Kd.C (Kd.int .u8) w A0 l0.length l0) (hc0 : l0.length ≤ c0) (h : shape_TakeBlob.f l0 = some (r1, r2, r3)) :
  Calls Tryz.prog 161 #[.slice A0 l0.length c0] w fun e w' => ∃ v0_ : Value, e = .returned (.tuple #[v0_, .int .i64 r2, .int .i64 r3]) ∧ Kd.R (Kd.int .u8) 5 w' w.heap.size (fun _ => True) v0_ r1 ∧ Below w.heap.size w w' := by
 unfold shape_TakeBlob.f at h
 split at h
 ·rename_i hb
  have h := Option.some.inj h
  have h1 : r1 = (takeBlob l0).1 := by rw [h]
  have h2 : r2 = (takeBlob l0).2.1 := by rw [h]
  have h3 : r3 = (takeBlob l0).2.2 := by rw [h]
  rw [h1, h2, h3]
  exact takeBlob_calls A0 c0 l0 w hr0 hc0 hb.1 hb.2
 ·cases h
end Go.Proofs.YtgiefblcckikeaaGreat.G
end

section
/- The eye: numbers and bytes read off bytes. -/
attribute [local irreducible] Go.wpStill
namespace Go.Proofs.YtgiefblcckikeaaGreat.M
open Go.RowKit Go.Proofs.YtgiefblcckikeaaGreatW.PrintWords Go.Proofs.YtgiefblcckikeaaGreatW.PrintLast Go.Proofs.YtgiefblcckikeaaGreatW.PrintMore Go.Proofs.YtgiefblcckikeaaGreat.G
structure EyeS where
 l : List Int
 e : Int
 o : Bool
def eNum (s : EyeS) : Int × EyeS := if s.e = 0 then ((takeNum s.l).1, ⟨s.l.drop (takeNum s.l).2.1.toNat, (takeNum s.l).2.2, s.o⟩) else (0, s)
def eSmall (s : EyeS) : Int × EyeS := if IntKind.i32.wrap (eNum s).1 = (eNum s).1 then eNum s else (0, { (eNum s).2 with o := true })
def eData (s : EyeS) : List Int × EyeS := if s.e = 0 then ((takeBlob s.l).1, ⟨s.l.drop (takeBlob s.l).2.1.toNat, (takeBlob s.l).2.2, s.o⟩) else ([], s)
def eWrong (b : Bool) (s : EyeS) : EyeS := if s.e = 0 ∧ b = true then { s with e := 40 } else s
def okS (s : EyeS) : Prop := okB s.l = true ∧ s.l.length < 140737488355328
theorem okS_num {s : EyeS} (h : okS s) : okS (eNum s).2 := by
 unfold eNum
 split
 ·exact ⟨okB_drop h.1 _, by have := h.2; simp only [List.length_drop]; omega⟩
 ·exact h
theorem okS_small {s : EyeS} (h : okS s) : okS (eSmall s).2 := by
 unfold eSmall
 split
 ·exact okS_num h
 ·exact okS_num h
theorem okS_data {s : EyeS} (h : okS s) : okS (eData s).2 := by
 unfold eData
 split
 ·exact ⟨okB_drop h.1 _, by have := h.2; simp only [List.length_drop]; omega⟩
 ·exact h
theorem okS_wrong {s : EyeS} (b : Bool) (h : okS s) : okS (eWrong b s) := by
 unfold eWrong
 split <;> exact h
def IsEye (w0 W : World) (x : Nat) (s : EyeS) : Prop := ∃ (A : Option Addr) (c : Nat), W.heap[x]? = some (.cells #[.slice A s.l.length c, .int .i64 s.e, .bool s.o] 81) ∧ w0.heap.size ≤ x ∧ s.l.length ≤ c ∧ Kd.C (Kd.int .u8) w0 A s.l.length s.l
theorem IsEye.lt {w0 W : World} {x : Nat} {s : EyeS} (h : IsEye w0 W x s) : x < W.heap.size := by
 obtain ⟨A, c, h1, _⟩ := h
 exact (Array.getElem?_eq_some_iff.1 h1).1
theorem IsEye.below {w0 W W' : World} {x : Nat} {s : EyeS} (h : IsEye w0 W x s) (hb : Below W.heap.size W W') : IsEye w0 W' x s := by
 have hl := h.lt
 obtain ⟨A, c, h1, h2⟩ := h
 exact ⟨A, c, (hb.block x hl).trans h1, h2⟩
theorem IsEye.ge {w0 W : World} {x : Nat} {s : EyeS} (h : IsEye w0 W x s) : w0.heap.size ≤ x := by
 obtain ⟨A, c, h1, h2, _⟩ := h
 exact h2
def EyP (w0 w : World) (x : Nat) (r : Value) (s' : EyeS) (e : Ending) (w' : World) : Prop := e = .returned r ∧ IsEye w0 w' x s' ∧ Below w0.heap.size w0 w' ∧ KeepS (fun i => i = x) w w'
theorem cutE {A : Option Addr} {c : Nat} {l : List Int} (j : Nat) (hj : j ≤ l.length) (hc : l.length ≤ c) :
  ∃ A' : Option Addr, (∀ W : World, (Instr.slice 23 (.slice A l.length c) (some (.int .i64 (j : Int))) none none).run Tryz.prog W = .ok (.slice A' (l.drop j).length (c - j)) W) ∧ (∀ w : World, Kd.C (Kd.int .u8) w A l.length l → Kd.C (Kd.int .u8) w A' (l.drop j).length (l.drop j)) ∧ (l.drop j).length ≤ c - j := by
 obtain ⟨i0, hi, hzz⟩ := Option.map_eq_some_iff.1 infoU8
 simp only [Prod.mk.injEq] at hzz
 obtain ⟨hz0, hz1, hz2⟩ := hzz
 refine ⟨if c = j then A else A.map (·.add (j * 1)), fun W => ?_, fun w h => ?_, ?_⟩
 ·have := cut_from (P := Tryz.prog) 23 5 .i64 Tryz.underlying23 hi 1 hz1 A l.length c (j : Int) (by omega) (by omega) W
  rw [Int.toNat_natCast] at this
  rw [List.length_drop]
  exact this
 ·have := Kd.C_drop h hj hc
  exact this
 ·rw [List.length_drop]; omega
theorem takeNum_size (l : List Int) : 0 ≤ (takeNum l).2.1 ∧ (takeNum l).2.1 ≤ l.length := by
 unfold takeNum
 by_cases h : tkE l = 0
 ·rw [if_pos h]
  simp only
  unfold tkE at h
  unfold tkS
  split at h
  ·omega
  ·split at h
   ·omega
   ·split at h
    ·omega
    ·omega
 ·rw [if_neg h]
  simp
set_option maxHeartbeats 1000000 in
theorem eNum_is {w0 w : World} {x : Nat} {s : EyeS} (hI : IsEye w0 w x s) (hB : Below w0.heap.size w0 w) (hok : okS s) :
  Calls Tryz.prog 110 #[.pointer (some ⟨x, 0, none⟩)] w fun e w' => EyP w0 w x (.int .i64 (eNum s).1) (eNum s).2 e w' := by
 have HI := Lib.hid hI; have HB := Lib.hid hB
 obtain ⟨A, c, h1, h2, h3, h4⟩ := hI
 have c0 : w.cell? ⟨x, 0, none⟩ = some (.slice A s.l.length c) := by simp [World.cell?, h1]
 have c1 : w.cell? ⟨x, 1, none⟩ = some (.int .i64 s.e) := by simp [World.cell?, h1]
 have HGE := Lib.hid h2
 by_cases he : s.e = 0
 ·have hb : (s.e != 0) = false := by rw [he]; rfl
  have HN := Lib.hid (takeNum_calls A c s.l w (Kd.C_below h4 hB) h3 hok.1)
  have HF := Lib.hid (show eNum s = ((takeNum s.l).1, ⟨s.l.drop (takeNum s.l).2.1.toNat, (takeNum s.l).2.2, s.o⟩) by unfold eNum; rw [if_pos he])
  obtain ⟨z0, z1⟩ := takeNum_size s.l
  obtain ⟨j, hj⟩ : ∃ j : Nat, (takeNum s.l).2.1 = (j : Int) := ⟨(takeNum s.l).2.1.toNat, by omega⟩
  obtain ⟨A', hcut, hC, hc'⟩ := cutE (A := A) (c := c) (l := s.l) j (by omega) h3
  obtain ⟨n, hn⟩ : ∃ n, (takeNum s.l).1 = n := ⟨_, rfl⟩
  obtain ⟨er, her⟩ : ∃ er, (takeNum s.l).2.2 = er := ⟨_, rfl⟩
  rw [hn, hj, her] at HN HF
  rw [Int.toNat_natCast] at HF
  have HC := Lib.hid (hC w0 h4)
  have HCC := Lib.hid hc'
  have HHE := Lib.hid h1
  obtain ⟨l2, hl2⟩ : ∃ l2, s.l.drop j = l2 := ⟨_, rfl⟩
  rw [hl2] at hcut HC HF HCC
  clear hB hok h1 h2 h3 h4 he z0 z1 hj hC hc' hn her hl2
  go_enter Tryz.func110, Tryz.ntmps110
  go_wp2_with fail
  refine HN.out.mono ?_
  rintro e w1 ⟨rfl, hb⟩
  have HB1 := Lib.hid (HB.out.trans (hb.mono HB.out.size))
  have HH1 := Lib.hid ((hb.block x HI.out.lt).trans HHE.out)
  have HK1 := Lib.hid (KeepS.of_below (fun i => i = x) hb)
  have d0 : w1.cell? ⟨x, 0, none⟩ = some (.slice A s.l.length c) := by simp [World.cell?, HH1.out]
  have d1 : w1.cell? ⟨x, 1, none⟩ = some (.int .i64 s.e) := by simp [World.cell?, HH1.out]
  have z0 : w1.frozen? ⟨x, 0, none⟩ = false := by simp [World.frozen?, HH1.out]
  have z1 : w1.frozen? ⟨x, 1, none⟩ = false := by simp [World.frozen?, HH1.out]
  clear hb c0 c1
  go_wp2_with fail
  go_ret
  refine ⟨by rw [HF.out]; rfl, ⟨A', c - j, ?_, HGE.out, ?_, ?_⟩, (HB1.out.setCell (by exact HGE.out) _).setCell (by exact HGE.out) _, (HK1.out.set (p := ⟨x, 1, none⟩) (.inl rfl) _).set (p := ⟨x, 0, none⟩) (.inl rfl) _⟩
  ·rw [HF.out]
   have e1 := heap_same w1 ⟨x, 1, none⟩ (.int .i64 er) HH1.out rfl
   have e2 := heap_same _ ⟨x, 0, none⟩ (.slice A' l2.length (c - j)) e1 rfl
   simpa using e2
  ·rw [HF.out]; exact HCC.out
  ·rw [HF.out]; exact HC.out
 ·have hb : (s.e != 0) = true := bne_iff_ne.2 he
  have HF := Lib.hid (show eNum s = (0, s) by unfold eNum; rw [if_neg he])
  clear hB hok h1 h2 h3 h4 he
  go_enter Tryz.func110, Tryz.ntmps110
  go_wp2_with fail
  go_ret
  exact ⟨by rw [HF.out]; rfl, by rw [HF.out]; exact HI.out, HB.out, KeepS.refl _ _⟩
theorem takeBlob_size {l : List Int} (h : okB l = true) (hl : l.length < 140737488355328) : 0 ≤ (takeBlob l).2.1 ∧ (takeBlob l).2.1 ≤ l.length := by
 unfold takeBlob
 by_cases h0 : blE l big62 0 = 0
 ·rw [if_pos h0]
  obtain ⟨h1, h2, h3, h4, h5, h6⟩ := blE_good h0
  show 0 ≤ blHi l ∧ blHi l ≤ l.length
  omega
 ·rw [if_neg h0]
  show (0 : Int) ≤ 0 ∧ (0 : Int) ≤ l.length
  omega
def DaP (w0 w : World) (x : Nat) (l : List Int) (s' : EyeS) (e : Ending) (w' : World) : Prop := ∃ v : Value, e = .returned v ∧ Kd.R (Kd.int .u8) 5 w' w.heap.size (fun k => k ≠ x) v l ∧ IsEye w0 w' x s' ∧ Below w0.heap.size w0 w' ∧ KeepS (fun i => i = x) w w'
set_option maxHeartbeats 1000000 in
theorem eData_is {w0 w : World} {x : Nat} {s : EyeS} (hI : IsEye w0 w x s) (hB : Below w0.heap.size w0 w) (hok : okS s) :
  Calls Tryz.prog 128 #[.pointer (some ⟨x, 0, none⟩)] w fun e w' => DaP w0 w x (eData s).1 (eData s).2 e w' := by
 have HI := Lib.hid hI; have HB := Lib.hid hB
 obtain ⟨A, c, h1, h2, h3, h4⟩ := hI
 have c0 : w.cell? ⟨x, 0, none⟩ = some (.slice A s.l.length c) := by simp [World.cell?, h1]
 have c1 : w.cell? ⟨x, 1, none⟩ = some (.int .i64 s.e) := by simp [World.cell?, h1]
 have HGE := Lib.hid h2
 by_cases he : s.e = 0
 ·have hb : (s.e != 0) = false := by rw [he]; rfl
  have HN := Lib.hid (takeBlob_calls A c s.l w (Kd.C_below h4 hB) h3 hok.1 hok.2)
  have HF := Lib.hid (show eData s = ((takeBlob s.l).1, ⟨s.l.drop (takeBlob s.l).2.1.toNat, (takeBlob s.l).2.2, s.o⟩) by unfold eData; rw [if_pos he])
  obtain ⟨z0, z1⟩ := takeBlob_size hok.1 hok.2
  obtain ⟨j, hj⟩ : ∃ j : Nat, (takeBlob s.l).2.1 = (j : Int) := ⟨(takeBlob s.l).2.1.toNat, by omega⟩
  obtain ⟨A', hcut, hC, hc'⟩ := cutE (A := A) (c := c) (l := s.l) j (by omega) h3
  obtain ⟨n, hn⟩ : ∃ n, (takeBlob s.l).1 = n := ⟨_, rfl⟩
  obtain ⟨er, her⟩ : ∃ er, (takeBlob s.l).2.2 = er := ⟨_, rfl⟩
  rw [hn, hj, her] at HN HF
  rw [Int.toNat_natCast] at HF
  have HC := Lib.hid (hC w0 h4)
  have HCC := Lib.hid hc'
  have HHE := Lib.hid h1
  obtain ⟨l2, hl2⟩ : ∃ l2, s.l.drop j = l2 := ⟨_, rfl⟩
  rw [hl2] at hcut HC HF HCC
  clear hB hok h1 h2 h3 h4 he z0 z1 hj hC hc' hn her hl2
  go_enter Tryz.func128, Tryz.ntmps128
  go_wp2_with fail
  refine HN.out.mono ?_
  rintro e w1 ⟨v, rfl, hv, hb⟩
  have HB1 := Lib.hid (HB.out.trans (hb.mono HB.out.size))
  have HH1 := Lib.hid ((hb.block x HI.out.lt).trans HHE.out)
  have HK1 := Lib.hid (KeepS.of_below (fun i => i = x) hb)
  have d0 : w1.cell? ⟨x, 0, none⟩ = some (.slice A s.l.length c) := by simp [World.cell?, HH1.out]
  have d1 : w1.cell? ⟨x, 1, none⟩ = some (.int .i64 s.e) := by simp [World.cell?, HH1.out]
  have z0 : w1.frozen? ⟨x, 0, none⟩ = false := by simp [World.frozen?, HH1.out]
  have z1 : w1.frozen? ⟨x, 1, none⟩ = false := by simp [World.frozen?, HH1.out]
  have HV := Lib.hid (show Kd.R (Kd.int .u8) 5 w1 w.heap.size (fun k => k ≠ x) v n from Kd.R_mono (Kd.R_bound hv) (fun k hk => by have := hk.2.1; have := HI.out.lt; omega))
  clear hb hv c0 c1
  go_wp2_with fail
  go_ret
  refine ⟨v, rfl, ?_, ⟨A', c - j, ?_, HGE.out, ?_, ?_⟩, (HB1.out.setCell (by exact HGE.out) _).setCell (by exact HGE.out) _, (HK1.out.set (p := ⟨x, 1, none⟩) (.inl rfl) _).set (p := ⟨x, 0, none⟩) (.inl rfl) _⟩
  ·rw [HF.out]
   exact Kd.R_step HV.out (fun k hk hl => (Below.heap_setCell _ ⟨x, 0, none⟩ _ k hk).trans (Below.heap_setCell w1 ⟨x, 1, none⟩ _ k hk))
  ·rw [HF.out]
   have e1 := heap_same w1 ⟨x, 1, none⟩ (.int .i64 er) HH1.out rfl
   have e2 := heap_same _ ⟨x, 0, none⟩ (.slice A' l2.length (c - j)) e1 rfl
   simpa using e2
  ·rw [HF.out]; exact HCC.out
  ·rw [HF.out]; exact HC.out
 ·have hb : (s.e != 0) = true := bne_iff_ne.2 he
  have HF := Lib.hid (show eData s = ([], s) by unfold eData; rw [if_neg he])
  clear hB hok h1 h2 h3 h4 he
  go_enter Tryz.func128, Tryz.ntmps128
  go_wp2_with fail
  go_ret
  exact ⟨.slice none 0 0, rfl, by rw [HF.out]; exact Kd.R_nil _ _ _ _ _, by rw [HF.out]; exact HI.out, HB.out, KeepS.refl _ _⟩
theorem eSmall_is {w0 w : World} {x : Nat} {s : EyeS} (hI : IsEye w0 w x s) (hB : Below w0.heap.size w0 w) (hok : okS s) :
  Calls Tryz.prog 112 #[.pointer (some ⟨x, 0, none⟩)] w fun e w' => EyP w0 w x (.int .i64 (eSmall s).1) (eSmall s).2 e w' := by
 have HN := Lib.hid (eNum_is hI hB hok)
 obtain ⟨n, hn⟩ : ∃ n, (eNum s).1 = n := ⟨_, rfl⟩
 obtain ⟨s2, hs2⟩ : ∃ s2, (eNum s).2 = s2 := ⟨_, rfl⟩
 rw [hn, hs2] at HN
 clear hI hB hok
 by_cases h : IntKind.i32.wrap n = n
 ·have HF := Lib.hid (show eSmall s = (n, s2) by unfold eSmall; rw [hn, if_pos h, ← hn, ← hs2])
  have hb : (n != wrap64 (wrap32 n)) = false := by
   rw [bne_eq_false_iff_eq]
   rw [IntKind.wrap_i32] at h
   unfold wrap64 wrap32
   omega
  clear hn hs2 h
  go_enter Tryz.func112, Tryz.ntmps112
  go_wp2_with fail
  refine HN.out.mono ?_
  rintro e w1 ⟨rfl, h1, h2, h3⟩
  have H1 := Lib.hid h1; have H2 := Lib.hid h2; have H3 := Lib.hid h3
  clear h1 h2 h3
  go_wp2_with fail
  go_ret
  exact ⟨by rw [HF.out]; rfl, by rw [HF.out]; exact H1.out, H2.out, H3.out⟩
 ·have HF := Lib.hid (show eSmall s = (0, { s2 with o := true }) by unfold eSmall; rw [hn, if_neg h, ← hs2])
  have hb : (n != wrap64 (wrap32 n)) = true := by
   rw [bne_iff_ne]
   rw [IntKind.wrap_i32] at h
   unfold wrap64 wrap32
   omega
  clear hn hs2 h
  go_enter Tryz.func112, Tryz.ntmps112
  go_wp2_with fail
  refine HN.out.mono ?_
  rintro e w1 ⟨rfl, h1, h2, h3⟩
  have H2 := Lib.hid h2; have H3 := Lib.hid h3
  obtain ⟨A, c, g1, g2, g3, g4⟩ := h1
  have HG := Lib.hid g1; have HGE := Lib.hid g2; have H34 := Lib.hid (And.intro g3 g4)
  have d2 : w1.cell? ⟨x, 2, none⟩ = some (.bool s2.o) := by simp [World.cell?, g1]
  have z2 : w1.frozen? ⟨x, 2, none⟩ = false := by simp [World.frozen?, g1]
  clear h2 h3 g1 g2 g3 g4
  go_wp2_with fail
  go_ret
  refine ⟨by rw [HF.out]; rfl, ?_, H2.out.setCell (by exact HGE.out) _, H3.out.set (p := ⟨x, 2, none⟩) (.inl rfl) _⟩
  rw [HF.out]
  refine ⟨A, c, ?_, HGE.out, H34.out.1, H34.out.2⟩
  have e1 := heap_same w1 ⟨x, 2, none⟩ (.bool true) HG.out rfl
  simpa using e1
theorem eWrong_is {w0 w : World} {x : Nat} {s : EyeS} (hI : IsEye w0 w x s) (hB : Below w0.heap.size w0 w) (b : Bool) :
  Calls Tryz.prog 111 #[.pointer (some ⟨x, 0, none⟩), .bool b] w fun e w' => EyP w0 w x (.tuple #[]) (eWrong b s) e w' := by
 have HI := Lib.hid hI; have HB := Lib.hid hB
 obtain ⟨A, c, h1, h2, h3, h4⟩ := hI
 have HGE := Lib.hid h2; have HH := Lib.hid h1; have H34 := Lib.hid (And.intro h3 h4)
 have c1 : w.cell? ⟨x, 1, none⟩ = some (.int .i64 s.e) := by simp [World.cell?, h1]
 have z1 : w.frozen? ⟨x, 1, none⟩ = false := by simp [World.frozen?, h1]
 clear h1 h2 h3 h4 hB
 by_cases he : s.e = 0
 ·have hb : (s.e == 0) = true := by rw [he]; rfl
  cases b with
  | true =>
   have HF := Lib.hid (show eWrong true s = { s with e := 40 } by unfold eWrong; rw [if_pos ⟨he, rfl⟩])
   clear he
   go_enter Tryz.func111, Tryz.ntmps111
   go_wp2_with fail
   go_end0
   refine ⟨rfl, ?_, HB.out.setCell (by exact HGE.out) _, (KeepS.refl (fun i => i = x) w).set (p := ⟨x, 1, none⟩) (.inl rfl) _⟩
   rw [HF.out]
   refine ⟨A, c, ?_, HGE.out, H34.out.1, H34.out.2⟩
   have e1 := heap_same w ⟨x, 1, none⟩ (.int .i64 40) HH.out rfl
   simpa using e1
  | false =>
   have HF := Lib.hid (show eWrong false s = s by unfold eWrong; rw [if_neg (fun h => by cases h.2)])
   clear he
   go_enter Tryz.func111, Tryz.ntmps111
   go_wp2_with fail
   go_end0
   exact ⟨rfl, by rw [HF.out]; exact HI.out, HB.out, KeepS.refl _ _⟩
 ·have hb : (s.e == 0) = false := beq_eq_false_iff_ne.2 he
  have HF := Lib.hid (show eWrong b s = s by unfold eWrong; rw [if_neg (fun h => he h.1)])
  clear he
  go_enter Tryz.func111, Tryz.ntmps111
  go_wp2_with fail
  go_end0
  exact ⟨rfl, by rw [HF.out]; exact HI.out, HB.out, KeepS.refl _ _⟩
end Go.Proofs.YtgiefblcckikeaaGreat.M
end

section
/- The eye's lists: numbers and keys (printed by geneye04.py). -/
attribute [local irreducible] Go.wpStill
namespace Go.Proofs.YtgiefblcckikeaaGreat.M
open Go.RowKit Go.Proofs.YtgiefblcckikeaaGreatW.PrintWords Go.Proofs.YtgiefblcckikeaaGreatW.PrintLast Go.Proofs.YtgiefblcckikeaaGreatW.PrintMore Go.Proofs.YtgiefblcckikeaaGreat.G
theorem IsEye.at {w0 W W' : World} {x : Nat} {s : EyeS} (h : IsEye w0 W x s) (e : W'.heap[x]? = W.heap[x]?) : IsEye w0 W' x s := by
 obtain ⟨A, c, h1, h2⟩ := h
 exact ⟨A, c, e.trans h1, h2⟩
theorem S_keep' {α : Type} {d : Kd α} {el base : Nat} {w w' : World} {v : Value} {l : List α} {x : Nat} (hx : x < base) (h : Kd.S d el w base (fun _ => True) v l) (hk : KeepS (fun i => i = x) w w') : Kd.S d el w' base (fun _ => True) v l :=
 Kd.S_mono (Kd.S_step (Kd.S_bound h) (fun k hk2 hlt => hk.block k hlt (fun e => by have := hk2.2.1; omega))) (fun _ _ => trivial)
def eMany {α : Type} (g : EyeS → α × EyeS) : Nat → EyeS → List α × EyeS
 | 0, s => ([], s)
 | n + 1, s => if s.e = 0 then ((g s).1 :: (eMany g n (g s).2).1, (eMany g n (g s).2).2) else ([], s)
theorem eMany_stop {α : Type} {g : EyeS → α × EyeS} {n : Nat} {s : EyeS} (h : ¬ s.e = 0) : eMany g n s = ([], s) := by
 cases n with
 | zero => rfl
 | succ n => simp only [eMany, if_neg h]
def eCount (s : EyeS) : EyeS := eWrong (decide ((eNum s).1 < 0) || decide (4096 < (eNum s).1)) (eNum s).2
def eList {α : Type} (g : EyeS → α × EyeS) (s : EyeS) : List α × EyeS := eMany g (eNum s).1.toNat (eCount s)
def LiP {α : Type} (d : Kd α) (el : Nat) (w0 w : World) (x : Nat) (l : List α) (s' : EyeS) (e : Ending) (w' : World) : Prop := ∃ v : Value, e = .returned v ∧ Kd.S d el w' w.heap.size (fun _ => True) v l ∧ IsEye w0 w' x s' ∧ Below w0.heap.size w0 w' ∧ KeepS (fun i => i = x) w w'
theorem okS_many {α : Type} {g : EyeS → α × EyeS} (hg : ∀ s, okS s → okS (g s).2) (n : Nat) : ∀ s, okS s → okS (eMany g n s).2 := by
 induction n with
 | zero => exact fun s h => h
 | succ n ih =>
  intro s h
  simp only [eMany]
  split
  ·exact ih _ (hg s h)
  ·exact h
theorem okS_list {α : Type} {g : EyeS → α × EyeS} (hg : ∀ s, okS s → okS (g s).2) {s : EyeS} (h : okS s) : okS (eList g s).2 := okS_many hg _ _ (okS_wrong _ (okS_num h))
def eKey (s : EyeS) : KeyD × EyeS := (⟨(eSmall s).1, (eNum (eSmall s).2).1⟩, (eNum (eSmall s).2).2)
theorem okS_key {s : EyeS} (h : okS s) : okS (eKey s).2 := okS_num (okS_small h)
theorem eSmall_i32 (s : EyeS) : wrap32 (eSmall s).1 = (eSmall s).1 := by
 unfold eSmall
 split
 ·next h => rw [IntKind.wrap_i32] at h; unfold wrap32; exact h
 ·show wrap32 0 = 0; unfold wrap32; omega
set_option maxHeartbeats 1000000 in
theorem eKey_is {w0 w : World} {x : Nat} {s : EyeS} (hI : IsEye w0 w x s) (hB : Below w0.heap.size w0 w) (hok : okS s) :
  Calls Tryz.prog 156 #[.pointer (some ⟨x, 0, none⟩)] w fun e w' => EyP w0 w x (.agg #[.int .i32 (eKey s).1.f0, .int .i64 (eKey s).1.f1]) (eKey s).2 e w' := by
 have hbx := heap_alloc_new w (.cells #[.int .i32 0, .int .i64 0] 101)
 have hb1 := (Below.refl _ w).alloc (Nat.le_refl _) (.cells #[.int .i32 0, .int .i64 0] 101)
 have HLT := Lib.hid (show x < w.heap.size from hI.lt); have HGEW := Lib.hid (show w0.heap.size ≤ w.heap.size from hB.size)
 have HN := Lib.hid (eSmall_is (hI.below hb1) (hB.alloc hB.size _) hok)
 have HK1 := Lib.hid (KeepS.of_below (fun i => i = x) hb1)
 have HOK := Lib.hid (okS_small hok)
 have h32 := eSmall_i32 s
 have HK := Lib.hid (show eKey s = (⟨(eSmall s).1, (eNum (eSmall s).2).1⟩, (eNum (eSmall s).2).2) from rfl)
 obtain ⟨n, hn⟩ : ∃ n, (eSmall s).1 = n := ⟨_, rfl⟩
 obtain ⟨s2, hs2⟩ : ∃ s2, (eSmall s).2 = s2 := ⟨_, rfl⟩
 rw [hn, hs2] at HN HK
 rw [hs2] at HOK
 rw [hn] at h32
 have HBX := Lib.hid hbx
 have HZ := Lib.hid (show w.heap.size < (w.alloc (.cells #[.int .i32 0, .int .i64 0] 101)).heap.size by simp)
 clear hn hs2 hI hB hok hbx hb1
 go_enter Tryz.func156, Tryz.ntmps156
 go_wp2_with fail
 refine HN.out.mono ?_
 rintro e w1 ⟨rfl, h1, h2, h3⟩
 have HN2 := Lib.hid (eNum_is h1 h2 HOK.out)
 have HZ2 := Lib.hid (Nat.lt_of_lt_of_le HZ.out h3.size)
 have HB1 := Lib.hid ((h3.block w.heap.size HZ.out (by have := HLT.out; omega)).trans HBX.out)
 have HK2 := Lib.hid (HK1.out.trans h3)
 obtain ⟨m, hm⟩ : ∃ m, (eNum s2).1 = m := ⟨_, rfl⟩
 obtain ⟨s3, hs3⟩ : ∃ s3, (eNum s2).2 = s3 := ⟨_, rfl⟩
 rw [hm, hs3] at HN2 HK
 clear h1 h2 h3 hm hs3
 go_wp2_with fail
 refine HN2.out.mono ?_
 rintro e w2 ⟨rfl, h1, h2, h3⟩
 have H1 := Lib.hid h1; have H2 := Lib.hid h2
 have HB2 := Lib.hid ((h3.block w.heap.size HZ2.out (by have := HLT.out; omega)).trans HB1.out)
 have HK3 := Lib.hid (HK2.out.trans h3)
 have d0 : w2.cell? ⟨w.heap.size, 0, none⟩ = some (.int .i32 0) := by simp [World.cell?, HB2.out]
 have d1 : w2.cell? ⟨w.heap.size, 1, none⟩ = some (.int .i64 0) := by simp [World.cell?, HB2.out]
 have z0 : w2.frozen? ⟨w.heap.size, 0, none⟩ = false := by simp [World.frozen?, HB2.out]
 have z1 : w2.frozen? ⟨w.heap.size, 1, none⟩ = false := by simp [World.frozen?, HB2.out]
 clear h1 h2 h3
 go_wp2_with fail
 refine bodyPost_ret (results_cell_row rfl _ _ w.heap.size 101 #[.int .i32 n, .int .i64 m] (0, 0) _ rfl ?_ Tryz.underlying101 rfl (by kernel_rfl)) rfl ?_
 ·refine blk_put (cs := #[.int .i32 n, .int .i64 0]) ?_ 1 _ rfl
  exact blk_put (cs := #[.int .i32 0, .int .i64 0]) HB2.out 0 _ rfl
 ·rw [HK.out]
  have e1 : x ≠ w.heap.size := by have := HLT.out; omega
  exact ⟨rfl, H1.out.at ((Below.heap_setCell _ ⟨w.heap.size, 1, none⟩ _ x e1).trans (Below.heap_setCell _ ⟨w.heap.size, 0, none⟩ _ x e1)), (H2.out.setCell (by exact HGEW.out) _).setCell (by exact HGEW.out) _, (HK3.out.set (p := ⟨w.heap.size, 0, none⟩) (.inr (Nat.le_refl _)) _).set (p := ⟨w.heap.size, 1, none⟩) (.inr (Nat.le_refl _)) _⟩
def LiI_nums (g : EyeS → Int × EyeS) (n : Int) (s0 : EyeS) (w0 w : World) (x : Nat) (v i : Value) (W : World) : Prop := ∃ (U : List Int) (s : EyeS), i = .int .i64 (U.length : Int) ∧ U.length ≤ 4096 ∧ U.length ≤ n.toNat ∧ (s.e = 0 → n ≤ 4096) ∧ Kd.S (Kd.int .i64) 2 W w.heap.size (fun _ => True) v U ∧ IsEye w0 W x s ∧ Below w0.heap.size w0 W ∧ KeepS (fun i => i = x) w W ∧ okS s ∧ eList g s0 = (U ++ (eMany g (n.toNat - U.length) s).1, (eMany g (n.toNat - U.length) s).2)
set_option maxHeartbeats 2000000 in
theorem eList_nums {w0 w : World} {x : Nat} {s : EyeS} (hI : IsEye w0 w x s) (hB : Below w0.heap.size w0 w) (hok : okS s) :
  Calls Tryz.prog 154 #[.pointer (some ⟨x, 0, none⟩), .func (.func 110) #[.pointer (some ⟨x, 0, none⟩)] #[]] w fun e w' => LiP (Kd.int .i64) 2 w0 w x (eList eNum s).1 (eList eNum s).2 e w' := by
 have HN := Lib.hid (eNum_is hI hB hok)
 have HOK := Lib.hid (okS_num hok)
 have HLT := Lib.hid hI.lt
 have HGEW := Lib.hid (show w0.heap.size ≤ w.heap.size from hB.size)
 obtain ⟨n, hn⟩ : ∃ n, (eNum s).1 = n := ⟨_, rfl⟩
 obtain ⟨s1, hs1⟩ : ∃ s1, (eNum s).2 = s1 := ⟨_, rfl⟩
 have HCT := Lib.hid (show eCount s = eWrong (decide (n < 0) || decide (4096 < n)) s1 by unfold eCount; rw [hn, hs1])
 have Hint64 := Lib.hid (show eList eNum s = eMany eNum n.toNat (eCount s) by unfold eList; rw [hn])
 rw [hn, hs1] at HN
 rw [hs1] at HOK
 clear hI hB hok hn hs1
 go_enter Tryz.func154, Tryz.ntmps154
 go_wp2_with fail
 refine HN.out.mono ?_
 rintro e w1 ⟨rfl, h1, h2, h3⟩
 have H1 := Lib.hid h1; have H2 := Lib.hid h2; have H3 := Lib.hid h3
 clear h1 h2 h3 HN
 go_upto_region 2 with fail
 go_cut [] (fun wx => IsEye w0 wx x (eCount s) ∧ Below w0.heap.size w0 wx ∧ KeepS (fun i => i = x) w wx)
 case first =>
  by_cases ha : n < 0
  ·have hq : decide (n < 0) = true := decide_eq_true ha
   have HW := Lib.hid (eWrong_is H1.out H2.out true)
   have HC2 := Lib.hid (show eCount s = eWrong true s1 by rw [HCT.out, hq, Bool.true_or])
   clear ha
   go_wp2_with fail
   refine HW.out.mono ?_
   rintro e w2 ⟨rfl, h1, h2, h3⟩
   have G1 := Lib.hid h1; have G2 := Lib.hid h2; have G3 := Lib.hid (H3.out.trans h3)
   clear h1 h2 h3
   go_wp2_with fail
   go_meet
   exact ⟨by rw [HC2.out]; exact G1.out, G2.out, G3.out⟩
  ·have hq : decide (n < 0) = false := decide_eq_false ha
   obtain ⟨b, hb⟩ : ∃ b, decide ((4096 : Int) < n) = b := ⟨_, rfl⟩
   have HW := Lib.hid (eWrong_is H1.out H2.out b)
   have HC2 := Lib.hid (show eCount s = eWrong b s1 by rw [HCT.out, hq, hb, Bool.false_or])
   clear ha
   go_wp2_with fail
   refine HW.out.mono ?_
   rintro e w2 ⟨rfl, h1, h2, h3⟩
   have G1 := Lib.hid h1; have G2 := Lib.hid h2; have G3 := Lib.hid (H3.out.trans h3)
   clear h1 h2 h3
   go_wp2_with fail
   go_meet
   exact ⟨by rw [HC2.out]; exact G1.out, G2.out, G3.out⟩
 case rest =>
  obtain ⟨h1, h2, h3⟩ := hcut
  have G1 := Lib.hid h1; have G2 := Lib.hid h2; have G3 := Lib.hid h3
  have HE0 := Lib.hid (show (eCount s).e = 0 → n ≤ 4096 by
   intro h
   rw [HCT.out] at h
   by_cases h5 : (4096 : Int) < n
   ·rw [decide_eq_true h5, Bool.or_true] at h
    unfold eWrong at h
    split at h
    ·cases h
    ·next h6 => exact absurd ⟨h, rfl⟩ h6
   ·omega)
  have HOC := Lib.hid (show okS (eCount s) by rw [HCT.out]; exact okS_wrong _ HOK.out)
  clear h1 h2 h3
  go_wp2_with fail
  go_loopw [6, 7] (fun v i wr => LiI_nums eNum n s w0 w x v i wr) (fun _ i _ => n.toNat - (intOf i).toNat)
  case atStart => exact ⟨[], eCount s, rfl, by simp, by simp, HE0.out, Kd.S_nil _ _ _ _ _, G1.out, G2.out, G3.out, HOC.out, by simpa using Hint64.out⟩
  case round =>
   obtain ⟨U, s2, rfl, hU, hUn, hE, hS, hI, hB, hK, hO, hF⟩ := hrel
   have HI := Lib.hid hI; have HB := Lib.hid hB; have HK := Lib.hid hK; have HO := Lib.hid hO; have HF := Lib.hid hF; have HS := Lib.hid hS; have HUN := Lib.hid hUn; have HE := Lib.hid hE
   obtain ⟨Av, cv, rfl⟩ := Kd.S_slice hS
   obtain ⟨A, c, g1, g2, g3, g4⟩ := hI
   have c1 : wr.cell? ⟨x, 1, none⟩ = some (.int .i64 s2.e) := by simp [World.cell?, g1]
   clear hB hK hO hF hS hUn hE g1 g2 g3 g4
   by_cases hlt : (U.length : Int) < n
   ·by_cases he : s2.e = 0
    ·have hq1 : decide ((U.length : Int) < n) = true := decide_eq_true hlt
     have hq2 : (s2.e == 0) = true := by rw [he]; rfl
     have HN4 := Lib.hid (HE.out he)
     have HG := Lib.hid (eNum_is HI.out HB.out HO.out)
     have HGO := Lib.hid (okS_num HO.out)
     obtain ⟨y, hy⟩ : ∃ y, (eNum s2).1 = y := ⟨_, rfl⟩
     obtain ⟨s3, hs3⟩ : ∃ s3, (eNum s2).2 = s3 := ⟨_, rfl⟩
     have HF2 := Lib.hid (show eList eNum s = ((U ++ [y]) ++ (eMany eNum (n.toNat - (U ++ [y]).length) s3).1, (eMany eNum (n.toNat - (U ++ [y]).length) s3).2) by
      rw [HF.out]
      have e1 : n.toNat - U.length = (n.toNat - (U ++ [y]).length) + 1 := by simp; omega
      rw [e1]
      simp only [eMany, he, if_true, hy, hs3, List.append_assoc, List.singleton_append])
     have HLT2 := Lib.hid hlt
     rw [hy, hs3] at HG
     rw [hs3] at HGO
     clear hlt he hy hs3
     go_wp2_with fail
     refine HG.out.mono ?_
     rintro e w3 ⟨rfl, h1, h2, h3⟩
     have HS3 := Lib.hid (show Kd.S (Kd.int .i64) 2 w3 w.heap.size (fun _ => True) (.slice Av U.length cv) U from S_keep' HLT.out HS.out h3)
     have HZ3 := Lib.hid (Nat.le_trans HK.out.size h3.size)
     have K1 := Lib.hid h1; have K2 := Lib.hid h2; have K3 := Lib.hid (HK.out.trans h3)
     clear h1 h2 h3
     go_wp2_with ((with_reducible refine gate_builtin (b := .append) (xs := #[.tmp 30, .tmp 33]) rfl ?_); at_builtin; refine Kd.S_append (Kd.int .i64) (w0 := w3) w.heap.size rfl (.tmp 30) (.tmp 33) 24 2 (.int .i64 0) 8 rfl Tryz.underlying24 infoI64 rfl (by decide) (by omega) _ U y [.int .i64 y] (fun _ => True) (fun _ => False) rfl rfl rfl (fun _ hk => hk.elim) (fun _ _ => trivial) (Kd.S_mono HS3.out (fun _ h => ⟨h, fun q => q⟩)) (Below.refl _ _) HZ3.out (by omega) ?_; intro v1 w5 ho hb5 hg5 hat; obtain ⟨A5, c5, rfl⟩ := Kd.S_slice ho; have HS5 := Lib.hid ho; have HK5 := Lib.hid (K3.out.then_base hb5); have HI5 := Lib.hid (K1.out.at (hb5.block x HLT.out)); have HB5 := Lib.hid (K2.out.trans (hb5.mono HGEW.out)); clear ho hb5 hg5 hat)
     go_roundw
     case rel =>
      refine ⟨U ++ [y], s3, by rw [List.length_append]; go_num, ?_, ?_, fun _ => HN4.out, (by have h9 := HS5.out; rw [List.length_append] at h9; exact h9), HI5.out, HB5.out, HK5.out, HGO.out, HF2.out⟩
      ·have h1 := HN4.out; have h2 := HLT2.out
       rw [List.length_append, List.length_singleton]
       omega
      ·have h2 := HLT2.out
       rw [List.length_append, List.length_singleton]
       omega
     case measure => simp [intOf]; have h2 := HLT2.out; omega
    ·have hq1 : decide ((U.length : Int) < n) = true := decide_eq_true hlt
     have hq2 : (s2.e == 0) = false := beq_eq_false_iff_ne.2 he
     have HF2 := Lib.hid (show eList eNum s = (U, s2) by rw [HF.out, eMany_stop he, List.append_nil])
     clear hlt he
     go_wp2_with fail
     go_ret
     exact ⟨_, rfl, by rw [HF2.out]; exact HS.out, by rw [HF2.out]; exact HI.out, HB.out, HK.out⟩
   ·have hq1 : decide ((U.length : Int) < n) = false := decide_eq_false hlt
    have HF2 := Lib.hid (show eList eNum s = (U, s2) by
     have e1 : n.toNat - U.length = 0 := by omega
     rw [HF.out, e1]
     simp only [eMany, List.append_nil])
    clear hlt
    go_wp2_with fail
    go_ret
    exact ⟨_, rfl, by rw [HF2.out]; exact HS.out, by rw [HF2.out]; exact HI.out, HB.out, HK.out⟩
def LiI_keys (g : EyeS → KeyD × EyeS) (n : Int) (s0 : EyeS) (w0 w : World) (x : Nat) (v i : Value) (W : World) : Prop := ∃ (U : List KeyD) (s : EyeS), i = .int .i64 (U.length : Int) ∧ U.length ≤ 4096 ∧ U.length ≤ n.toNat ∧ (s.e = 0 → n ≤ 4096) ∧ Kd.S G.k101 101 W w.heap.size (fun _ => True) v U ∧ IsEye w0 W x s ∧ Below w0.heap.size w0 W ∧ KeepS (fun i => i = x) w W ∧ okS s ∧ eList g s0 = (U ++ (eMany g (n.toNat - U.length) s).1, (eMany g (n.toNat - U.length) s).2)
set_option maxHeartbeats 2000000 in
theorem eList_keys {w0 w : World} {x : Nat} {s : EyeS} (hI : IsEye w0 w x s) (hB : Below w0.heap.size w0 w) (hok : okS s) :
  Calls Tryz.prog 155 #[.pointer (some ⟨x, 0, none⟩), .func (.func 156) #[.pointer (some ⟨x, 0, none⟩)] #[]] w fun e w' => LiP G.k101 101 w0 w x (eList eKey s).1 (eList eKey s).2 e w' := by
 have HN := Lib.hid (eNum_is hI hB hok)
 have HOK := Lib.hid (okS_num hok)
 have HLT := Lib.hid hI.lt
 have HGEW := Lib.hid (show w0.heap.size ≤ w.heap.size from hB.size)
 obtain ⟨n, hn⟩ : ∃ n, (eNum s).1 = n := ⟨_, rfl⟩
 obtain ⟨s1, hs1⟩ : ∃ s1, (eNum s).2 = s1 := ⟨_, rfl⟩
 have HCT := Lib.hid (show eCount s = eWrong (decide (n < 0) || decide (4096 < n)) s1 by unfold eCount; rw [hn, hs1])
 have Hapi.Key := Lib.hid (show eList eKey s = eMany eKey n.toNat (eCount s) by unfold eList; rw [hn])
 rw [hn, hs1] at HN
 rw [hs1] at HOK
 clear hI hB hok hn hs1
 go_enter Tryz.func155, Tryz.ntmps155
 go_wp2_with fail
 refine HN.out.mono ?_
 rintro e w1 ⟨rfl, h1, h2, h3⟩
 have H1 := Lib.hid h1; have H2 := Lib.hid h2; have H3 := Lib.hid h3
 clear h1 h2 h3 HN
 go_upto_region 2 with fail
 go_cut [] (fun wx => IsEye w0 wx x (eCount s) ∧ Below w0.heap.size w0 wx ∧ KeepS (fun i => i = x) w wx)
 case first =>
  by_cases ha : n < 0
  ·have hq : decide (n < 0) = true := decide_eq_true ha
   have HW := Lib.hid (eWrong_is H1.out H2.out true)
   have HC2 := Lib.hid (show eCount s = eWrong true s1 by rw [HCT.out, hq, Bool.true_or])
   clear ha
   go_wp2_with fail
   refine HW.out.mono ?_
   rintro e w2 ⟨rfl, h1, h2, h3⟩
   have G1 := Lib.hid h1; have G2 := Lib.hid h2; have G3 := Lib.hid (H3.out.trans h3)
   clear h1 h2 h3
   go_wp2_with fail
   go_meet
   exact ⟨by rw [HC2.out]; exact G1.out, G2.out, G3.out⟩
  ·have hq : decide (n < 0) = false := decide_eq_false ha
   obtain ⟨b, hb⟩ : ∃ b, decide ((4096 : Int) < n) = b := ⟨_, rfl⟩
   have HW := Lib.hid (eWrong_is H1.out H2.out b)
   have HC2 := Lib.hid (show eCount s = eWrong b s1 by rw [HCT.out, hq, hb, Bool.false_or])
   clear ha
   go_wp2_with fail
   refine HW.out.mono ?_
   rintro e w2 ⟨rfl, h1, h2, h3⟩
   have G1 := Lib.hid h1; have G2 := Lib.hid h2; have G3 := Lib.hid (H3.out.trans h3)
   clear h1 h2 h3
   go_wp2_with fail
   go_meet
   exact ⟨by rw [HC2.out]; exact G1.out, G2.out, G3.out⟩
 case rest =>
  obtain ⟨h1, h2, h3⟩ := hcut
  have G1 := Lib.hid h1; have G2 := Lib.hid h2; have G3 := Lib.hid h3
  have HE0 := Lib.hid (show (eCount s).e = 0 → n ≤ 4096 by
   intro h
   rw [HCT.out] at h
   by_cases h5 : (4096 : Int) < n
   ·rw [decide_eq_true h5, Bool.or_true] at h
    unfold eWrong at h
    split at h
    ·cases h
    ·next h6 => exact absurd ⟨h, rfl⟩ h6
   ·omega)
  have HOC := Lib.hid (show okS (eCount s) by rw [HCT.out]; exact okS_wrong _ HOK.out)
  clear h1 h2 h3
  go_wp2_with fail
  go_loopw [6, 7] (fun v i wr => LiI_keys eKey n s w0 w x v i wr) (fun _ i _ => n.toNat - (intOf i).toNat)
  case atStart => exact ⟨[], eCount s, rfl, by simp, by simp, HE0.out, Kd.S_nil _ _ _ _ _, G1.out, G2.out, G3.out, HOC.out, by simpa using Hapi.Key.out⟩
  case round =>
   obtain ⟨U, s2, rfl, hU, hUn, hE, hS, hI, hB, hK, hO, hF⟩ := hrel
   have HI := Lib.hid hI; have HB := Lib.hid hB; have HK := Lib.hid hK; have HO := Lib.hid hO; have HF := Lib.hid hF; have HS := Lib.hid hS; have HUN := Lib.hid hUn; have HE := Lib.hid hE
   obtain ⟨Av, cv, rfl⟩ := Kd.S_slice hS
   obtain ⟨A, c, g1, g2, g3, g4⟩ := hI
   have c1 : wr.cell? ⟨x, 1, none⟩ = some (.int .i64 s2.e) := by simp [World.cell?, g1]
   clear hB hK hO hF hS hUn hE g1 g2 g3 g4
   by_cases hlt : (U.length : Int) < n
   ·by_cases he : s2.e = 0
    ·have hq1 : decide ((U.length : Int) < n) = true := decide_eq_true hlt
     have hq2 : (s2.e == 0) = true := by rw [he]; rfl
     have HN4 := Lib.hid (HE.out he)
     have HG := Lib.hid (eKey_is HI.out HB.out HO.out)
     have HGO := Lib.hid (okS_key HO.out)
     obtain ⟨y, hy⟩ : ∃ y, (eKey s2).1 = y := ⟨_, rfl⟩
     obtain ⟨s3, hs3⟩ : ∃ s3, (eKey s2).2 = s3 := ⟨_, rfl⟩
     have HF2 := Lib.hid (show eList eKey s = ((U ++ [y]) ++ (eMany eKey (n.toNat - (U ++ [y]).length) s3).1, (eMany eKey (n.toNat - (U ++ [y]).length) s3).2) by
      rw [HF.out]
      have e1 : n.toNat - U.length = (n.toNat - (U ++ [y]).length) + 1 := by simp; omega
      rw [e1]
      simp only [eMany, he, if_true, hy, hs3, List.append_assoc, List.singleton_append])
     have HLT2 := Lib.hid hlt
     rw [hy, hs3] at HG
     rw [hs3] at HGO
     clear hlt he hy hs3
     go_wp2_with fail
     refine HG.out.mono ?_
     rintro e w3 ⟨rfl, h1, h2, h3⟩
     have HS3 := Lib.hid (show Kd.S G.k101 101 w3 w.heap.size (fun _ => True) (.slice Av U.length cv) U from S_keep' HLT.out HS.out h3)
     have HZ3 := Lib.hid (Nat.le_trans HK.out.size h3.size)
     have K1 := Lib.hid h1; have K2 := Lib.hid h2; have K3 := Lib.hid (HK.out.trans h3)
     clear h1 h2 h3
     go_wp2_with ((with_reducible refine gate_builtin (b := .append) (xs := #[.tmp 30, .tmp 33]) rfl ?_); at_builtin; refine Kd.S_append G.k101 (w0 := w3) w.heap.size rfl (.tmp 30) (.tmp 33) 22 101 (.agg #[.int .i32 0, .int .i64 0]) 16 rfl Tryz.underlying22 infoKey rfl (by decide) (by omega) _ U y [.int .i32 y.f0, .int .i64 y.f1] (fun _ => True) (fun _ => False) rfl rfl (G.k101_mkM _ _ _ _) (fun _ hk => hk.elim) (fun _ _ => trivial) (Kd.S_mono HS3.out (fun _ h => ⟨h, fun q => q⟩)) (Below.refl _ _) HZ3.out (by omega) ?_; intro v1 w5 ho hb5 hg5 hat; obtain ⟨A5, c5, rfl⟩ := Kd.S_slice ho; have HS5 := Lib.hid ho; have HK5 := Lib.hid (K3.out.then_base hb5); have HI5 := Lib.hid (K1.out.at (hb5.block x HLT.out)); have HB5 := Lib.hid (K2.out.trans (hb5.mono HGEW.out)); clear ho hb5 hg5 hat)
     go_roundw
     case rel =>
      refine ⟨U ++ [y], s3, by rw [List.length_append]; go_num, ?_, ?_, fun _ => HN4.out, (by have h9 := HS5.out; rw [List.length_append] at h9; exact h9), HI5.out, HB5.out, HK5.out, HGO.out, HF2.out⟩
      ·have h1 := HN4.out; have h2 := HLT2.out
       rw [List.length_append, List.length_singleton]
       omega
      ·have h2 := HLT2.out
       rw [List.length_append, List.length_singleton]
       omega
     case measure => simp [intOf]; have h2 := HLT2.out; omega
    ·have hq1 : decide ((U.length : Int) < n) = true := decide_eq_true hlt
     have hq2 : (s2.e == 0) = false := beq_eq_false_iff_ne.2 he
     have HF2 := Lib.hid (show eList eKey s = (U, s2) by rw [HF.out, eMany_stop he, List.append_nil])
     clear hlt he
     go_wp2_with fail
     go_ret
     exact ⟨_, rfl, by rw [HF2.out]; exact HS.out, by rw [HF2.out]; exact HI.out, HB.out, HK.out⟩
   ·have hq1 : decide ((U.length : Int) < n) = false := decide_eq_false hlt
    have HF2 := Lib.hid (show eList eKey s = (U, s2) by
     have e1 : n.toNat - U.length = 0 := by omega
     rw [HF.out, e1]
     simp only [eMany, List.append_nil])
    clear hlt
    go_wp2_with fail
    go_ret
    exact ⟨_, rfl, by rw [HF2.out]; exact HS.out, by rw [HF2.out]; exact HI.out, HB.out, HK.out⟩
end Go.Proofs.YtgiefblcckikeaaGreat.M
end

section
/- The eye: a transaction. -/
attribute [local irreducible] Go.wpStill
namespace Go.Proofs.YtgiefblcckikeaaGreat.M
open Go.RowKit Go.Proofs.YtgiefblcckikeaaGreatW.PrintWords Go.Proofs.YtgiefblcckikeaaGreatW.PrintLast Go.Proofs.YtgiefblcckikeaaGreatW.PrintMore Go.Proofs.YtgiefblcckikeaaGreat.G
def eTxn (s : EyeS) : TxD × EyeS :=
 (⟨(eNum s).1, (eNum (eNum s).2).1, (eData (eNum (eNum s).2).2).1, (eList eNum (eData (eNum (eNum s).2).2).2).1, (eList eKey (eList eNum (eData (eNum (eNum s).2).2).2).2).1, (eList eKey (eList eKey (eList eNum (eData (eNum (eNum s).2).2).2).2).2).1⟩,
  (eList eKey (eList eKey (eList eNum (eData (eNum (eNum s).2).2).2).2).2).2)
theorem okS_txn {s : EyeS} (h : okS s) : okS (eTxn s).2 := okS_list (fun _ => okS_key) (okS_list (fun _ => okS_key) (okS_list (fun _ => okS_num) (okS_data (okS_num (okS_num h)))))
def TxP (w0 w : World) (x : Nat) (y : TxD) (s' : EyeS) (e : Ending) (w' : World) : Prop := ∃ v2 v3 v4 v5 : Value, e = .returned (.agg #[.int .i64 y.f0, .int .i64 y.f1, v2, v3, v4, v5]) ∧ Kd.R (Kd.int .u8) 5 w' w.heap.size (fun _ => True) v2 y.f2 ∧ Kd.R (Kd.int .i64) 2 w' w.heap.size (fun _ => True) v3 y.f3 ∧ Kd.R G.k101 101 w' w.heap.size (fun k => some k ≠ v5.ownBlock) v4 y.f4 ∧ Kd.R G.k101 101 w' w.heap.size (fun k => some k ≠ v4.ownBlock) v5 y.f5 ∧ IsEye w0 w' x s' ∧ Below w0.heap.size w0 w' ∧ KeepS (fun i => i = x) w w'
theorem R_keepO {α : Type} {d : Kd α} {el base : Nat} {w w' : World} {v : Value} {l : List α} {ok S : Nat → Prop} (ho : ∀ i, ok i → ¬ S i) (h : Kd.R d el w base ok v l) (hk : KeepS S w w') : Kd.R d el w' base ok v l :=
 Kd.R_step h (fun k hk2 hlt => hk.block k hlt (ho k hk2))
abbrev zTxn : Obj := .cells #[.int .i64 0, .int .i64 0, .slice none 0 0, .slice none 0 0, .slice none 0 0, .slice none 0 0] 26
set_option maxHeartbeats 4000000 in
theorem eTxn_is {w0 w : World} {x : Nat} {s : EyeS} (hI : IsEye w0 w x s) (hB : Below w0.heap.size w0 w) (hok : okS s) :
  Calls Tryz.prog 114 #[.pointer (some ⟨x, 0, none⟩)] w fun e w' => TxP w0 w x (eTxn s).1 (eTxn s).2 e w' := by
 have hbx := heap_alloc_new w zTxn
 have hb1 := (Below.refl _ w).alloc (Nat.le_refl _) zTxn
 have HLT := Lib.hid (show x < w.heap.size from hI.lt); have HGEW := Lib.hid (show w0.heap.size ≤ w.heap.size from hB.size)
 have HN := Lib.hid (eNum_is (hI.below hb1) (hB.alloc hB.size _) hok)
 have HK1 := Lib.hid (KeepS.of_below (fun i => i = x) hb1)
 obtain ⟨r, HF0⟩ : ∃ r, eTxn s = r := ⟨_, rfl⟩
 have HF := HF0
 unfold eTxn at HF
 obtain ⟨a, ha⟩ : ∃ a, (eNum s).1 = a := ⟨_, rfl⟩
 obtain ⟨s1, hs1⟩ : ∃ s1, (eNum s).2 = s1 := ⟨_, rfl⟩
 have ho1 := okS_num hok
 rw [ha, hs1] at HN HF
 rw [hs1] at ho1
 obtain ⟨b, hb⟩ : ∃ b, (eNum s1).1 = b := ⟨_, rfl⟩
 obtain ⟨s2, hs2⟩ : ∃ s2, (eNum s1).2 = s2 := ⟨_, rfl⟩
 have ho2 := okS_num ho1
 rw [hb, hs2] at HF
 rw [hs2] at ho2
 obtain ⟨l2, hl2⟩ : ∃ l2, (eData s2).1 = l2 := ⟨_, rfl⟩
 obtain ⟨s3, hs3⟩ : ∃ s3, (eData s2).2 = s3 := ⟨_, rfl⟩
 have ho3 := okS_data ho2
 rw [hl2, hs3] at HF
 rw [hs3] at ho3
 obtain ⟨l3, hl3⟩ : ∃ l3, (eList eNum s3).1 = l3 := ⟨_, rfl⟩
 obtain ⟨s4, hs4⟩ : ∃ s4, (eList eNum s3).2 = s4 := ⟨_, rfl⟩
 have ho4 := okS_list (g := eNum) (fun _ => okS_num) ho3
 rw [hl3, hs4] at HF
 rw [hs4] at ho4
 obtain ⟨l4, hl4⟩ : ∃ l4, (eList eKey s4).1 = l4 := ⟨_, rfl⟩
 obtain ⟨s5, hs5⟩ : ∃ s5, (eList eKey s4).2 = s5 := ⟨_, rfl⟩
 have ho5 := okS_list (g := eKey) (fun _ => okS_key) ho4
 rw [hl4, hs5] at HF
 rw [hs5] at ho5
 obtain ⟨l5, hl5⟩ : ∃ l5, (eList eKey s5).1 = l5 := ⟨_, rfl⟩
 obtain ⟨s6, hs6⟩ : ∃ s6, (eList eKey s5).2 = s6 := ⟨_, rfl⟩
 rw [hl5, hs6] at HF
 have HF := Lib.hid (HF0.trans HF.symm)
 have HO1 := Lib.hid ho1; have HO2 := Lib.hid ho2; have HO3 := Lib.hid ho3; have HO4 := Lib.hid ho4; have HO5 := Lib.hid ho5
 have HE2 := Lib.hid (And.intro hb hs2); have HE3 := Lib.hid (And.intro hl2 hs3); have HE4 := Lib.hid (And.intro hl3 hs4); have HE5 := Lib.hid (And.intro hl4 hs5); have HE6 := Lib.hid (And.intro hl5 hs6)
 have HBX := Lib.hid hbx
 have HZ := Lib.hid (show w.heap.size < (w.alloc zTxn).heap.size by simp)
 clear ha hs1 hb hs2 hl2 hs3 hl3 hs4 hl4 hs5 hl5 hs6 ho1 ho2 ho3 ho4 ho5 hI hB hok hbx hb1
 go_enter Tryz.func114, Tryz.ntmps114
 go_wp2_with fail
 refine HN.out.mono ?_
 rintro e w1 ⟨rfl, h1, h2, h3⟩
 have h4 := eNum_is h1 h2 HO1.out
 rw [HE2.out.1, HE2.out.2] at h4
 have HN2 := Lib.hid h4
 have HZ1 := Lib.hid (Nat.lt_of_lt_of_le HZ.out h3.size)
 have HB1 := Lib.hid ((h3.block w.heap.size HZ.out (by have := HLT.out; omega)).trans HBX.out)
 have HK2 := Lib.hid (HK1.out.trans h3)
 clear h1 h2 h3 h4
 go_wp2_with fail
 refine HN2.out.mono ?_
 rintro e w2 ⟨rfl, h1, h2, h3⟩
 have h4 := eData_is h1 h2 HO2.out
 rw [HE3.out.1, HE3.out.2] at h4
 have HN3 := Lib.hid h4
 have HZ2 := Lib.hid (Nat.lt_of_lt_of_le HZ1.out h3.size)
 have HB2 := Lib.hid ((h3.block w.heap.size HZ1.out (by have := HLT.out; omega)).trans HB1.out)
 have HK3 := Lib.hid (HK2.out.trans h3)
 clear h1 h2 h3 h4
 go_wp2_with fail
 refine HN3.out.mono ?_
 rintro e w3 ⟨v2, rfl, hv, h1, h2, h3⟩
 obtain ⟨A2, c2, rfl⟩ := Kd.R_slice hv
 have HV2 := Lib.hid (show Kd.R (Kd.int .u8) 5 w3 w.heap.size (fun k => k ≠ x ∧ k ≠ w.heap.size ∧ k ≠ w3.heap.size) _ l2 from Kd.R_mono (Kd.R_lower (Kd.R_bound hv) (Nat.le_of_lt HZ2.out)) (fun k hk => by
  have h7 := hk.2.1; have h8 := hk.2.2.1; have := HZ2.out; exact ⟨hk.1, by omega, by omega⟩))
 have HZ3 := Lib.hid (Nat.lt_of_lt_of_le HZ2.out h3.size)
 have HB3 := Lib.hid ((h3.block w.heap.size HZ2.out (by have := HLT.out; omega)).trans HB2.out)
 have HK4 := Lib.hid (HK3.out.trans h3)
 have H1 := Lib.hid h1; have H2 := Lib.hid h2
 clear h1 h2 h3 hv
 go_wp2_with fail
 have hby := heap_alloc_new w3 (.cells #[.int .i64 a, .int .i64 b, .slice A2 l2.length c2, .slice none 0 0, .slice none 0 0, .slice none 0 0] 26)
 have hay := (Below.refl _ w3).alloc (Nat.le_refl _) (.cells #[.int .i64 a, .int .i64 b, .slice A2 l2.length c2, .slice none 0 0, .slice none 0 0, .slice none 0 0] 26)
 have hzy : (w3.alloc (.cells #[.int .i64 a, .int .i64 b, .slice A2 l2.length c2, .slice none 0 0, .slice none 0 0, .slice none 0 0] 26)).heap.size = w3.heap.size + 1 := by simp
 have HVA := Lib.hid (Kd.R_alloc HV2.out (.cells #[.int .i64 a, .int .i64 b, .slice A2 l2.length c2, .slice none 0 0, .slice none 0 0, .slice none 0 0] 26))
 obtain ⟨w4, hw4⟩ : ∃ w4, w3.alloc (.cells #[.int .i64 a, .int .i64 b, .slice A2 l2.length c2, .slice none 0 0, .slice none 0 0, .slice none 0 0] 26) = w4 := ⟨_, rfl⟩
 rw [hw4] at hby hay hzy HVA ⊢
 obtain ⟨g, hg⟩ : ∃ g, w3.heap.size = g := ⟨_, rfl⟩
 have HI4 := Lib.hid (H1.out.below hay)
 have HD4 := Lib.hid (H2.out.trans (hay.mono H2.out.size))
 have HG4 := Lib.hid ((hay.block w.heap.size HZ3.out).trans HB3.out)
 have HQ4 := Lib.hid (HK4.out.then_below hay)
 rw [hg] at hby hzy HVA HZ3 ⊢
 have HY4 := Lib.hid hby
 have HGZ := Lib.hid (show w.heap.size < g ∧ x < w.heap.size from ⟨HZ3.out, HLT.out⟩)
 have HZZ4 := Lib.hid (show g < w4.heap.size by omega)
 clear hw4 hg hby hay hzy H1 H2 HB3 HK4 HV2
 have HV2 := HVA
 clear HVA
 have h4 := eList_nums HI4.out HD4.out HO3.out
 rw [HE4.out.1, HE4.out.2] at h4
 have HNN3 := Lib.hid h4
 clear h4
 refine HNN3.out.mono ?_
 rintro e w5 ⟨v3, rfl, hv, h1, h2, h3⟩
 have hvr := Kd.S_R hv
 obtain ⟨A3, c3, rfl⟩ := Kd.R_slice hvr
 have HV3 := Lib.hid (show Kd.R (Kd.int .i64) 2 w5 w.heap.size (fun k => k ≠ x ∧ k ≠ w.heap.size ∧ k ≠ g) _ l3 from Kd.R_mono (Kd.R_lower (Kd.R_bound hvr) HQ4.out.size) (fun k hk => by
  have h7 := hk.2.1; have h9 := HGZ.out; have h8 := HZZ4.out; refine ⟨?_, ?_, ?_⟩ <;> omega))
 have HW2 := Lib.hid (R_keepO (S := fun i => i = x) (fun i hi => hi.1) HV2.out h3)
 clear HV2
 have HV2 := HW2
 clear HW2
 have HG5 := Lib.hid ((h3.block w.heap.size (by have := HGZ.out; have := HZZ4.out; omega) (by have := HGZ.out; omega)).trans HG4.out)
 have HY5 := Lib.hid ((h3.block g HZZ4.out (by have := HGZ.out; omega)).trans HY4.out)
 have HQ5 := Lib.hid (HQ4.out.trans h3)
 have HZZ5 := Lib.hid (Nat.lt_of_lt_of_le HZZ4.out h3.size)
 have HI5 := Lib.hid h1
 have HD5 := Lib.hid h2
 have d3 : w5.cell? ⟨g, 3, none⟩ = some (.slice none 0 0) := by simp [World.cell?, HY5.out]
 have z3 : w5.frozen? ⟨g, 3, none⟩ = false := by simp [World.frozen?, HY5.out]
 clear hv hvr h1 h2 h3 HNN3
 go_wp2_with fail
 have HY6 := Lib.hid (blk_put (cs := #[.int .i64 a, .int .i64 b, .slice A2 l2.length c2, .slice none 0 0, .slice none 0 0, .slice none 0 0]) HY5.out 3 (.slice A3 l3.length c3) rfl)
 have HG6 := Lib.hid ((Below.heap_setCell w5 ⟨g, 3, none⟩ (.slice A3 l3.length c3) w.heap.size (by have := HGZ.out; simp; omega)).trans HG5.out)
 have HI6 := Lib.hid (HI5.out.at (Below.heap_setCell w5 ⟨g, 3, none⟩ (.slice A3 l3.length c3) x (by have := HGZ.out; simp; omega)))
 have HD6 := Lib.hid (HD5.out.setCell (p := ⟨g, 3, none⟩) (by have := HGZ.out; have := HGEW.out; simp; omega) (.slice A3 l3.length c3))
 have HQ6 := Lib.hid (HQ5.out.set (p := ⟨g, 3, none⟩) (.inr (by have := HGZ.out; simp; omega)) (.slice A3 l3.length c3))
 have HZZ6 := Lib.hid (show g < (w5.setCell ⟨g, 3, none⟩ (.slice A3 l3.length c3)).heap.size by rw [World.size_setCell]; exact HZZ5.out)
 have HW2 := Lib.hid (Kd.R_far (p := ⟨g, 3, none⟩) HV2.out (fun k hk => hk.2.2) (.slice A3 l3.length c3))
 have HW3 := Lib.hid (Kd.R_far (p := ⟨g, 3, none⟩) HV3.out (fun k hk => hk.2.2) (.slice A3 l3.length c3))
 obtain ⟨w6, hw6⟩ : ∃ w6, w5.setCell ⟨g, 3, none⟩ (.slice A3 l3.length c3) = w6 := ⟨_, rfl⟩
 rw [hw6] at HY6 HG6 HI6 HD6 HQ6 HZZ6 HW2 HW3 ⊢
 clear hw6 HY5 HG5 HI5 HD5 HQ5 HZZ5 HV2 HV3 d3 z3
 have HV2 := HW2
 clear HW2
 have HV3 := HW3
 clear HW3
 have h4 := eList_keys HI6.out HD6.out HO4.out
 rw [HE5.out.1, HE5.out.2] at h4
 have HNN4 := Lib.hid h4
 clear h4
 refine HNN4.out.mono ?_
 rintro e w7 ⟨v4, rfl, hv, h1, h2, h3⟩
 have hvr := Kd.S_R hv
 obtain ⟨A4, c4, rfl⟩ := Kd.R_slice hvr
 have HV4 := Lib.hid (show Kd.R G.k101 101 w7 w.heap.size (fun k => k ≠ x ∧ k ≠ w.heap.size ∧ k ≠ g) _ l4 from Kd.R_mono (Kd.R_lower (Kd.R_bound hvr) HQ6.out.size) (fun k hk => by
  have h7 := hk.2.1; have h9 := HGZ.out; have h8 := HZZ6.out; refine ⟨?_, ?_, ?_⟩ <;> omega))
 have HW2 := Lib.hid (R_keepO (S := fun i => i = x) (fun i hi => hi.1) HV2.out h3)
 clear HV2
 have HV2 := HW2
 clear HW2
 have HW3 := Lib.hid (R_keepO (S := fun i => i = x) (fun i hi => hi.1) HV3.out h3)
 clear HV3
 have HV3 := HW3
 clear HW3
 have HG7 := Lib.hid ((h3.block w.heap.size (by have := HGZ.out; have := HZZ6.out; omega) (by have := HGZ.out; omega)).trans HG6.out)
 have HY7 := Lib.hid ((h3.block g HZZ6.out (by have := HGZ.out; omega)).trans HY6.out)
 have HQ7 := Lib.hid (HQ6.out.trans h3)
 have HZZ7 := Lib.hid (Nat.lt_of_lt_of_le HZZ6.out h3.size)
 have HI7 := Lib.hid h1
 have HD7 := Lib.hid h2
 have d4 : w7.cell? ⟨g, 4, none⟩ = some (.slice none 0 0) := by simp [World.cell?, HY7.out]
 have z4 : w7.frozen? ⟨g, 4, none⟩ = false := by simp [World.frozen?, HY7.out]
 clear hv hvr h1 h2 h3 HNN4
 go_wp2_with fail
 have HY8 := Lib.hid (blk_put (cs := #[.int .i64 a, .int .i64 b, .slice A2 l2.length c2, .slice A3 l3.length c3, .slice none 0 0, .slice none 0 0]) HY7.out 4 (.slice A4 l4.length c4) rfl)
 have HG8 := Lib.hid ((Below.heap_setCell w7 ⟨g, 4, none⟩ (.slice A4 l4.length c4) w.heap.size (by have := HGZ.out; simp; omega)).trans HG7.out)
 have HI8 := Lib.hid (HI7.out.at (Below.heap_setCell w7 ⟨g, 4, none⟩ (.slice A4 l4.length c4) x (by have := HGZ.out; simp; omega)))
 have HD8 := Lib.hid (HD7.out.setCell (p := ⟨g, 4, none⟩) (by have := HGZ.out; have := HGEW.out; simp; omega) (.slice A4 l4.length c4))
 have HQ8 := Lib.hid (HQ7.out.set (p := ⟨g, 4, none⟩) (.inr (by have := HGZ.out; simp; omega)) (.slice A4 l4.length c4))
 have HZZ8 := Lib.hid (show g < (w7.setCell ⟨g, 4, none⟩ (.slice A4 l4.length c4)).heap.size by rw [World.size_setCell]; exact HZZ7.out)
 have HW2 := Lib.hid (Kd.R_far (p := ⟨g, 4, none⟩) HV2.out (fun k hk => hk.2.2) (.slice A4 l4.length c4))
 have HW3 := Lib.hid (Kd.R_far (p := ⟨g, 4, none⟩) HV3.out (fun k hk => hk.2.2) (.slice A4 l4.length c4))
 have HW4 := Lib.hid (Kd.R_far (p := ⟨g, 4, none⟩) HV4.out (fun k hk => hk.2.2) (.slice A4 l4.length c4))
 obtain ⟨w8, hw8⟩ : ∃ w8, w7.setCell ⟨g, 4, none⟩ (.slice A4 l4.length c4) = w8 := ⟨_, rfl⟩
 rw [hw8] at HY8 HG8 HI8 HD8 HQ8 HZZ8 HW2 HW3 HW4 ⊢
 clear hw8 HY7 HG7 HI7 HD7 HQ7 HZZ7 HV2 HV3 HV4 d4 z4
 have HV2 := HW2
 clear HW2
 have HV3 := HW3
 clear HW3
 have HV4 := HW4
 clear HW4
 have h4 := eList_keys HI8.out HD8.out HO5.out
 rw [HE6.out.1, HE6.out.2] at h4
 have HNN5 := Lib.hid h4
 clear h4
 refine HNN5.out.mono ?_
 rintro e w9 ⟨v5, rfl, hv, h1, h2, h3⟩
 have hvr := Kd.S_R hv
 obtain ⟨A5, c5, rfl⟩ := Kd.R_slice hvr
 have HV5 := Lib.hid (show Kd.R G.k101 101 w9 w.heap.size (fun k => k ≠ x ∧ k ≠ w.heap.size ∧ k ≠ g ∧ w8.heap.size ≤ k) _ l5 from Kd.R_mono (Kd.R_lower (Kd.R_bound hvr) HQ8.out.size) (fun k hk => by
  have h7 := hk.2.1; have h9 := HGZ.out; have h8 := HZZ8.out; refine ⟨?_, ?_, ?_, ?_⟩ <;> omega))
 have HW2 := Lib.hid (R_keepO (S := fun i => i = x) (fun i hi => hi.1) HV2.out h3)
 clear HV2
 have HV2 := HW2
 clear HW2
 have HW3 := Lib.hid (R_keepO (S := fun i => i = x) (fun i hi => hi.1) HV3.out h3)
 clear HV3
 have HV3 := HW3
 clear HW3
 have HW4 := Lib.hid (R_keepO (S := fun i => i = x) (fun i hi => hi.1.1) (show Kd.R G.k101 101 w8 w.heap.size (fun k => (k ≠ x ∧ k ≠ w.heap.size ∧ k ≠ g) ∧ k < w8.heap.size) _ l4 from Kd.R_mono (Kd.R_bound HV4.out) (fun k hk => ⟨hk.1, hk.2.2.1⟩)) h3)
 clear HV4
 have HV4 := HW4
 clear HW4
 have HG9 := Lib.hid ((h3.block w.heap.size (by have := HGZ.out; have := HZZ8.out; omega) (by have := HGZ.out; omega)).trans HG8.out)
 have HY9 := Lib.hid ((h3.block g HZZ8.out (by have := HGZ.out; omega)).trans HY8.out)
 have HQ9 := Lib.hid (HQ8.out.trans h3)
 have HZZ9 := Lib.hid (Nat.lt_of_lt_of_le HZZ8.out h3.size)
 have HI9 := Lib.hid h1
 have HD9 := Lib.hid h2
 have d5 : w9.cell? ⟨g, 5, none⟩ = some (.slice none 0 0) := by simp [World.cell?, HY9.out]
 have z5 : w9.frozen? ⟨g, 5, none⟩ = false := by simp [World.frozen?, HY9.out]
 clear hv hvr h1 h2 h3 HNN5
 have d0 : w9.cell? ⟨g, 0, none⟩ = some (.int .i64 a) := by simp [World.cell?, HY9.out]
 have d1 : w9.cell? ⟨g, 1, none⟩ = some (.int .i64 b) := by simp [World.cell?, HY9.out]
 have d2 : w9.cell? ⟨g, 2, none⟩ = some (.slice A2 l2.length c2) := by simp [World.cell?, HY9.out]
 have d3 : w9.cell? ⟨g, 3, none⟩ = some (.slice A3 l3.length c3) := by simp [World.cell?, HY9.out]
 have d4 : w9.cell? ⟨g, 4, none⟩ = some (.slice A4 l4.length c4) := by simp [World.cell?, HY9.out]
 have e0 : w9.cell? ⟨w.heap.size, 0, none⟩ = some (.int .i64 0) := by simp [World.cell?, HG9.out]
 have y0 : w9.frozen? ⟨w.heap.size, 0, none⟩ = false := by simp [World.frozen?, HG9.out]
 have e1 : w9.cell? ⟨w.heap.size, 1, none⟩ = some (.int .i64 0) := by simp [World.cell?, HG9.out]
 have y1 : w9.frozen? ⟨w.heap.size, 1, none⟩ = false := by simp [World.frozen?, HG9.out]
 have e2 : w9.cell? ⟨w.heap.size, 2, none⟩ = some (.slice none 0 0) := by simp [World.cell?, HG9.out]
 have y2 : w9.frozen? ⟨w.heap.size, 2, none⟩ = false := by simp [World.frozen?, HG9.out]
 have e3 : w9.cell? ⟨w.heap.size, 3, none⟩ = some (.slice none 0 0) := by simp [World.cell?, HG9.out]
 have y3 : w9.frozen? ⟨w.heap.size, 3, none⟩ = false := by simp [World.frozen?, HG9.out]
 have e4 : w9.cell? ⟨w.heap.size, 4, none⟩ = some (.slice none 0 0) := by simp [World.cell?, HG9.out]
 have y4 : w9.frozen? ⟨w.heap.size, 4, none⟩ = false := by simp [World.frozen?, HG9.out]
 have e5 : w9.cell? ⟨w.heap.size, 5, none⟩ = some (.slice none 0 0) := by simp [World.cell?, HG9.out]
 have y5 : w9.frozen? ⟨w.heap.size, 5, none⟩ = false := by simp [World.frozen?, HG9.out]
 have HGN : w.heap.size ≠ g := by have := HGZ.out; omega
 go_wp2_with fail
 have HEB := Lib.hid (blk_put (cs := #[.int .i64 a, .int .i64 b, .slice A2 l2.length c2, .slice A3 l3.length c3, .slice A4 l4.length c4, .slice none 0 0]) (blk_put (cs := #[.int .i64 a, .int .i64 b, .slice A2 l2.length c2, .slice A3 l3.length c3, .slice none 0 0, .slice none 0 0]) (blk_put (cs := #[.int .i64 a, .int .i64 b, .slice A2 l2.length c2, .slice none 0 0, .slice none 0 0, .slice none 0 0]) (blk_put (cs := #[.int .i64 a, .int .i64 b, .slice none 0 0, .slice none 0 0, .slice none 0 0, .slice none 0 0]) (blk_put (cs := #[.int .i64 a, .int .i64 0, .slice none 0 0, .slice none 0 0, .slice none 0 0, .slice none 0 0]) (blk_put (cs := #[.int .i64 0, .int .i64 0, .slice none 0 0, .slice none 0 0, .slice none 0 0, .slice none 0 0]) ((Below.heap_setCell w9 ⟨g, 5, none⟩ (.slice A5 l5.length c5) w.heap.size HGN).trans HG9.out) 0 (.int .i64 a) rfl) 1 (.int .i64 b) rfl) 2 (.slice A2 l2.length c2) rfl) 3 (.slice A3 l3.length c3) rfl) 4 (.slice A4 l4.length c4) rfl) 5 (.slice A5 l5.length c5) rfl)
 have HKS := Lib.hid ((((((((KeepS.refl (fun i => i = g ∨ i = w.heap.size) w9).set (p := ⟨g, 5, none⟩) (.inl (.inl rfl)) (.slice A5 l5.length c5)).set (p := ⟨w.heap.size, 0, none⟩) (.inl (.inr rfl)) (.int .i64 a)).set (p := ⟨w.heap.size, 1, none⟩) (.inl (.inr rfl)) (.int .i64 b)).set (p := ⟨w.heap.size, 2, none⟩) (.inl (.inr rfl)) (.slice A2 l2.length c2)).set (p := ⟨w.heap.size, 3, none⟩) (.inl (.inr rfl)) (.slice A3 l3.length c3)).set (p := ⟨w.heap.size, 4, none⟩) (.inl (.inr rfl)) (.slice A4 l4.length c4)).set (p := ⟨w.heap.size, 5, none⟩) (.inl (.inr rfl)) (.slice A5 l5.length c5))
 obtain ⟨W, hW⟩ : ∃ W, ((((((w9.setCell ⟨g, 5, none⟩ (.slice A5 l5.length c5)).setCell ⟨w.heap.size, 0, none⟩ (.int .i64 a)).setCell ⟨w.heap.size, 1, none⟩ (.int .i64 b)).setCell ⟨w.heap.size, 2, none⟩ (.slice A2 l2.length c2)).setCell ⟨w.heap.size, 3, none⟩ (.slice A3 l3.length c3)).setCell ⟨w.heap.size, 4, none⟩ (.slice A4 l4.length c4)).setCell ⟨w.heap.size, 5, none⟩ (.slice A5 l5.length c5) = W := ⟨_, rfl⟩
 rw [hW] at HEB HKS ⊢
 clear hW
 refine bodyPost_ret (results_cell_row rfl _ _ w.heap.size 26 #[.int .i64 a, .int .i64 b, .slice A2 l2.length c2, .slice A3 l3.length c3, .slice A4 l4.length c4, .slice A5 l5.length c5] (0, 0) _ rfl HEB.out Tryz.underlying26 rfl (by kernel_rfl)) rfl ?_
 rw [HF.out]
 have hq := HQ9.out.size
 have hgz := HGZ.out
 refine ⟨_, _, _, _, rfl, Kd.R_mono (R_keepO (fun i hi => ?_) HV2.out HKS.out) (fun _ _ => trivial), Kd.R_mono (R_keepO (fun i hi => ?_) HV3.out HKS.out) (fun _ _ => trivial), Kd.R_mono (R_keepO (fun i hi => ?_) HV4.out HKS.out) (fun k hk e => ?_), Kd.R_mono (R_keepO (fun i hi => ?_) HV5.out HKS.out) (fun k hk e => ?_), HI9.out.at (HKS.out.block x (by omega) ?_), HD9.out.trans (HKS.out.below (B := w0.heap.size) HD9.out.size ?_), HQ9.out.then_base (HKS.out.below (B := w.heap.size) hq ?_)⟩
 ·rintro (h | h); exact hi.2.2 h; exact hi.2.1 h
 ·rintro (h | h); exact hi.2.2 h; exact hi.2.1 h
 ·rintro (h | h); exact hi.1.2.2 h; exact hi.1.2.1 h
 ·have h5 := HV5.out.1 k e.symm
  have := hk.2
  have := h5.2.2.2
  omega
 ·rintro (h | h); exact hi.2.2.1 h; exact hi.2.1 h
 ·have h5 := HV4.out.1 k e.symm
  have := hk.2.2.2
  have := h5.2
  omega
 ·rintro (h | h) <;> omega
 ·have := HGEW.out
  rintro i (h | h) <;> omega
 ·rintro i (h | h) <;> omega
end Go.Proofs.YtgiefblcckikeaaGreat.M
end

section
/- The eye's lists: transactions (printed by geneye04.py). -/
attribute [local irreducible] Go.wpStill
namespace Go.Proofs.YtgiefblcckikeaaGreat.M
open Go.RowKit Go.Proofs.YtgiefblcckikeaaGreatW.PrintWords Go.Proofs.YtgiefblcckikeaaGreatW.PrintLast Go.Proofs.YtgiefblcckikeaaGreatW.PrintMore Go.Proofs.YtgiefblcckikeaaGreat.G
def LiI_txns (g : EyeS → TxD × EyeS) (n : Int) (s0 : EyeS) (w0 w : World) (x : Nat) (v i : Value) (W : World) : Prop := ∃ (U : List TxD) (s : EyeS), i = .int .i64 (U.length : Int) ∧ U.length ≤ 4096 ∧ U.length ≤ n.toNat ∧ (s.e = 0 → n ≤ 4096) ∧ Kd.S G.k26 26 W w.heap.size (fun _ => True) v U ∧ IsEye w0 W x s ∧ Below w0.heap.size w0 W ∧ KeepS (fun i => i = x) w W ∧ okS s ∧ eList g s0 = (U ++ (eMany g (n.toNat - U.length) s).1, (eMany g (n.toNat - U.length) s).2)
set_option maxHeartbeats 2000000 in
theorem eList_txns {w0 w : World} {x : Nat} {s : EyeS} (hI : IsEye w0 w x s) (hB : Below w0.heap.size w0 w) (hok : okS s) :
  Calls Tryz.prog 113 #[.pointer (some ⟨x, 0, none⟩), .func (.func 114) #[.pointer (some ⟨x, 0, none⟩)] #[]] w fun e w' => LiP G.k26 26 w0 w x (eList eTxn s).1 (eList eTxn s).2 e w' := by
 have HN := Lib.hid (eNum_is hI hB hok)
 have HOK := Lib.hid (okS_num hok)
 have HLT := Lib.hid hI.lt
 have HGEW := Lib.hid (show w0.heap.size ≤ w.heap.size from hB.size)
 obtain ⟨n, hn⟩ : ∃ n, (eNum s).1 = n := ⟨_, rfl⟩
 obtain ⟨s1, hs1⟩ : ∃ s1, (eNum s).2 = s1 := ⟨_, rfl⟩
 have HCT := Lib.hid (show eCount s = eWrong (decide (n < 0) || decide (4096 < n)) s1 by unfold eCount; rw [hn, hs1])
 have Hapi.Txn := Lib.hid (show eList eTxn s = eMany eTxn n.toNat (eCount s) by unfold eList; rw [hn])
 rw [hn, hs1] at HN
 rw [hs1] at HOK
 clear hI hB hok hn hs1
 go_enter Tryz.func113, Tryz.ntmps113
 go_wp2_with fail
 refine HN.out.mono ?_
 rintro e w1 ⟨rfl, h1, h2, h3⟩
 have H1 := Lib.hid h1; have H2 := Lib.hid h2; have H3 := Lib.hid h3
 clear h1 h2 h3 HN
 go_upto_region 2 with fail
 go_cut [] (fun wx => IsEye w0 wx x (eCount s) ∧ Below w0.heap.size w0 wx ∧ KeepS (fun i => i = x) w wx)
 case first =>
  by_cases ha : n < 0
  ·have hq : decide (n < 0) = true := decide_eq_true ha
   have HW := Lib.hid (eWrong_is H1.out H2.out true)
   have HC2 := Lib.hid (show eCount s = eWrong true s1 by rw [HCT.out, hq, Bool.true_or])
   clear ha
   go_wp2_with fail
   refine HW.out.mono ?_
   rintro e w2 ⟨rfl, h1, h2, h3⟩
   have G1 := Lib.hid h1; have G2 := Lib.hid h2; have G3 := Lib.hid (H3.out.trans h3)
   clear h1 h2 h3
   go_wp2_with fail
   go_meet
   exact ⟨by rw [HC2.out]; exact G1.out, G2.out, G3.out⟩
  ·have hq : decide (n < 0) = false := decide_eq_false ha
   obtain ⟨b, hb⟩ : ∃ b, decide ((4096 : Int) < n) = b := ⟨_, rfl⟩
   have HW := Lib.hid (eWrong_is H1.out H2.out b)
   have HC2 := Lib.hid (show eCount s = eWrong b s1 by rw [HCT.out, hq, hb, Bool.false_or])
   clear ha
   go_wp2_with fail
   refine HW.out.mono ?_
   rintro e w2 ⟨rfl, h1, h2, h3⟩
   have G1 := Lib.hid h1; have G2 := Lib.hid h2; have G3 := Lib.hid (H3.out.trans h3)
   clear h1 h2 h3
   go_wp2_with fail
   go_meet
   exact ⟨by rw [HC2.out]; exact G1.out, G2.out, G3.out⟩
 case rest =>
  obtain ⟨h1, h2, h3⟩ := hcut
  have G1 := Lib.hid h1; have G2 := Lib.hid h2; have G3 := Lib.hid h3
  have HE0 := Lib.hid (show (eCount s).e = 0 → n ≤ 4096 by
   intro h
   rw [HCT.out] at h
   by_cases h5 : (4096 : Int) < n
   ·rw [decide_eq_true h5, Bool.or_true] at h
    unfold eWrong at h
    split at h
    ·cases h
    ·next h6 => exact absurd ⟨h, rfl⟩ h6
   ·omega)
  have HOC := Lib.hid (show okS (eCount s) by rw [HCT.out]; exact okS_wrong _ HOK.out)
  clear h1 h2 h3
  go_wp2_with fail
  go_loopw [6, 7] (fun v i wr => LiI_txns eTxn n s w0 w x v i wr) (fun _ i _ => n.toNat - (intOf i).toNat)
  case atStart => exact ⟨[], eCount s, rfl, by simp, by simp, HE0.out, Kd.S_nil _ _ _ _ _, G1.out, G2.out, G3.out, HOC.out, by simpa using Hapi.Txn.out⟩
  case round =>
   obtain ⟨U, s2, rfl, hU, hUn, hE, hS, hI, hB, hK, hO, hF⟩ := hrel
   have HI := Lib.hid hI; have HB := Lib.hid hB; have HK := Lib.hid hK; have HO := Lib.hid hO; have HF := Lib.hid hF; have HS := Lib.hid hS; have HUN := Lib.hid hUn; have HE := Lib.hid hE
   obtain ⟨Av, cv, rfl⟩ := Kd.S_slice hS
   obtain ⟨A, c, g1, g2, g3, g4⟩ := hI
   have c1 : wr.cell? ⟨x, 1, none⟩ = some (.int .i64 s2.e) := by simp [World.cell?, g1]
   clear hB hK hO hF hS hUn hE g1 g2 g3 g4
   by_cases hlt : (U.length : Int) < n
   ·by_cases he : s2.e = 0
    ·have hq1 : decide ((U.length : Int) < n) = true := decide_eq_true hlt
     have hq2 : (s2.e == 0) = true := by rw [he]; rfl
     have HN4 := Lib.hid (HE.out he)
     have HG := Lib.hid (eTxn_is HI.out HB.out HO.out)
     have HGO := Lib.hid (okS_txn HO.out)
     obtain ⟨y, hy⟩ : ∃ y, (eTxn s2).1 = y := ⟨_, rfl⟩
     obtain ⟨s3, hs3⟩ : ∃ s3, (eTxn s2).2 = s3 := ⟨_, rfl⟩
     have HF2 := Lib.hid (show eList eTxn s = ((U ++ [y]) ++ (eMany eTxn (n.toNat - (U ++ [y]).length) s3).1, (eMany eTxn (n.toNat - (U ++ [y]).length) s3).2) by
      rw [HF.out]
      have e1 : n.toNat - U.length = (n.toNat - (U ++ [y]).length) + 1 := by simp; omega
      rw [e1]
      simp only [eMany, he, if_true, hy, hs3, List.append_assoc, List.singleton_append])
     have HLT2 := Lib.hid hlt
     rw [hy, hs3] at HG
     rw [hs3] at HGO
     clear hlt he hy hs3
     go_wp2_with fail
     refine HG.out.mono ?_
     rintro e w3 ⟨v2, v3, v4, v5, rfl, r2, r3, r4, r5, h1, h2, h3⟩
     obtain ⟨A2, c2, rfl⟩ := Kd.R_slice r2
     obtain ⟨A3, c3, rfl⟩ := Kd.R_slice r3
     obtain ⟨A4, c4, rfl⟩ := Kd.R_slice r4
     obtain ⟨A5, c5, rfl⟩ := Kd.R_slice r5
     have HBW := Lib.hid (show w.heap.size ≤ wr.heap.size from HK.out.size)
     have R2 := Lib.hid (show Kd.R (Kd.int .u8) 5 w3 w.heap.size (fun k => wr.heap.size ≤ k) _ y.f2 from Kd.R_mono (Kd.R_lower (Kd.R_bound r2) HBW.out) (fun k hk => hk.2.1))
     have R3 := Lib.hid (show Kd.R (Kd.int .i64) 2 w3 w.heap.size (fun k => wr.heap.size ≤ k) _ y.f3 from Kd.R_mono (Kd.R_lower (Kd.R_bound r3) HBW.out) (fun k hk => hk.2.1))
     have R4 := Lib.hid (show Kd.R G.k101 101 w3 w.heap.size (fun k => wr.heap.size ≤ k) _ y.f4 from Kd.R_mono (Kd.R_lower (Kd.R_bound r4) HBW.out) (fun k hk => hk.2.1))
     have R5 := Lib.hid (show Kd.R G.k101 101 w3 w.heap.size (fun k => wr.heap.size ≤ k) _ y.f5 from Kd.R_mono (Kd.R_lower (Kd.R_bound r5) HBW.out) (fun k hk => hk.2.1))
     have HS3 := Lib.hid (show Kd.S G.k26 26 w3 w.heap.size (fun k => True ∧ ¬ wr.heap.size ≤ k) (.slice Av U.length cv) U from Kd.S_mono (Kd.S_step (Kd.S_bound HS.out) (fun k hk2 hlt => h3.block k hlt (fun e => by have := hk2.2.1; have := HLT.out; omega))) (fun k hk => ⟨trivial, by have := hk.2.2.1; omega⟩))
     have HOWN := Lib.hid (Kd.S_lt HS.out)
     have HZ3 := Lib.hid (Nat.le_trans HK.out.size h3.size)
     have K1 := Lib.hid h1; have K2 := Lib.hid h2; have K3 := Lib.hid (HK.out.trans h3)
     clear h1 h2 h3 r2 r3 r4 r5
     go_wp2_with ((with_reducible refine gate_builtin (b := .append) (xs := #[.tmp 30, .tmp 33]) rfl ?_); at_builtin; refine Kd.S_append G.k26 (w0 := w3) w.heap.size rfl (.tmp 30) (.tmp 33) 27 26 (.agg #[.int .i64 0, .int .i64 0, .slice none 0 0, .slice none 0 0, .slice none 0 0, .slice none 0 0]) 112 rfl Tryz.underlying27 G.info26 rfl (by decide) (by omega) _ U y [.int .i64 y.f0, .int .i64 y.f1, .slice A2 y.f2.length c2, .slice A3 y.f3.length c3, .slice A4 y.f4.length c4, .slice A5 y.f5.length c5] (fun _ => True) (fun k => wr.heap.size ≤ k) rfl rfl (G.k26_mkM _ _ _ y R2.out R3.out R4.out R5.out) (fun k hk => ⟨trivial, fun e => by have := HOWN.out k e.symm; omega⟩) (fun _ _ => trivial) HS3.out (Below.refl _ _) HZ3.out (by omega) ?_; intro v1 w5 ho hb5 hg5 hat; obtain ⟨A9, c9, rfl⟩ := Kd.S_slice ho; have HS5 := Lib.hid ho; have HK5 := Lib.hid (K3.out.then_base hb5); have HI5 := Lib.hid (K1.out.at (hb5.block x HLT.out)); have HB5 := Lib.hid (K2.out.trans (hb5.mono HGEW.out)); clear ho hb5 hg5 hat)
     go_roundw
     case rel =>
      refine ⟨U ++ [y], s3, by rw [List.length_append]; go_num, ?_, ?_, fun _ => HN4.out, (by have h9 := HS5.out; rw [List.length_append] at h9; exact h9), HI5.out, HB5.out, HK5.out, HGO.out, HF2.out⟩
      ·have h1 := HN4.out; have h2 := HLT2.out
       rw [List.length_append, List.length_singleton]
       omega
      ·have h2 := HLT2.out
       rw [List.length_append, List.length_singleton]
       omega
     case measure => simp [intOf]; have h2 := HLT2.out; omega
    ·have hq1 : decide ((U.length : Int) < n) = true := decide_eq_true hlt
     have hq2 : (s2.e == 0) = false := beq_eq_false_iff_ne.2 he
     have HF2 := Lib.hid (show eList eTxn s = (U, s2) by rw [HF.out, eMany_stop he, List.append_nil])
     clear hlt he
     go_wp2_with fail
     go_ret
     exact ⟨_, rfl, by rw [HF2.out]; exact HS.out, by rw [HF2.out]; exact HI.out, HB.out, HK.out⟩
   ·have hq1 : decide ((U.length : Int) < n) = false := decide_eq_false hlt
    have HF2 := Lib.hid (show eList eTxn s = (U, s2) by
     have e1 : n.toNat - U.length = 0 := by omega
     rw [HF.out, e1]
     simp only [eMany, List.append_nil])
    clear hlt
    go_wp2_with fail
    go_ret
    exact ⟨_, rfl, by rw [HF2.out]; exact HS.out, by rw [HF2.out]; exact HI.out, HB.out, HK.out⟩
end Go.Proofs.YtgiefblcckikeaaGreat.M
end

section
/- The eye: an entry (printed by geneyee04.py). -/
attribute [local irreducible] Go.wpStill
namespace Go.Proofs.YtgiefblcckikeaaGreat.M
open Go.RowKit Go.Proofs.YtgiefblcckikeaaGreatW.PrintWords Go.Proofs.YtgiefblcckikeaaGreatW.PrintLast Go.Proofs.YtgiefblcckikeaaGreatW.PrintMore Go.Proofs.YtgiefblcckikeaaGreat.G
abbrev EnD := Int × Int × Int × List TxD
def eKind (s : EyeS) : EyeS := eWrong (decide ((eNum s).1 ≠ 0) && decide ((eNum s).1 ≠ 1)) (eNum s).2
def eBody (s : EyeS) : EnD × EyeS := ((1, (eSmall s).1, (eNum (eSmall s).2).1, (eList eTxn (eNum (eSmall s).2).2).1), (eList eTxn (eNum (eSmall s).2).2).2)
def eEntry (s : EyeS) : EnD × EyeS := if ¬ (eKind s).e = 0 ∨ (eNum s).1 = 0 then ((0, 0, 0, []), eKind s) else eBody (eKind s)
theorem okS_body {s : EyeS} (h : okS s) : okS (eBody s).2 := okS_list (fun _ => okS_txn) (okS_num (okS_small h))
theorem okS_kind {s : EyeS} (h : okS s) : okS (eKind s) := okS_wrong _ (okS_num h)
theorem okS_entry {s : EyeS} (h : okS s) : okS (eEntry s).2 := by
 unfold eEntry
 split
 ·exact okS_kind h
 ·exact okS_body (okS_kind h)
def EnP (w0 w : World) (x : Nat) (y : EnD) (s' : EyeS) (e : Ending) (w' : World) : Prop := ∃ v : Value, e = .returned (.agg #[.int .i64 y.1, .int .i64 y.2.1, .int .i64 y.2.2.1, v]) ∧ Kd.S G.k26 26 w' w.heap.size (fun _ => True) v y.2.2.2 ∧ IsEye w0 w' x s' ∧ Below w0.heap.size w0 w' ∧ KeepS (fun i => i = x) w w'
abbrev zEnt : Obj := .cells #[.int .i64 0, .int .i64 0, .int .i64 0, .slice none 0 0] 29
set_option maxHeartbeats 4000000 in
theorem eEntry_is {w0 w : World} {x : Nat} {s : EyeS} (hI : IsEye w0 w x s) (hB : Below w0.heap.size w0 w) (hok : okS s) :
  Calls Tryz.prog 54 #[.pointer (some ⟨x, 0, none⟩)] w fun e w' => EnP w0 w x (eEntry s).1 (eEntry s).2 e w' := by
 have hbx := heap_alloc_new w zEnt
 have hb1 := (Below.refl _ w).alloc (Nat.le_refl _) zEnt
 have HLT := Lib.hid (show x < w.heap.size from hI.lt); have HGEW := Lib.hid (show w0.heap.size ≤ w.heap.size from hB.size)
 have HN := Lib.hid (eNum_is (hI.below hb1) (hB.alloc hB.size _) hok)
 have HK1 := Lib.hid (KeepS.of_below (fun i => i = x) hb1)
 have HOK := Lib.hid (okS_kind hok)
 obtain ⟨k, hk⟩ : ∃ k, (eNum s).1 = k := ⟨_, rfl⟩
 obtain ⟨s1, hs1⟩ : ∃ s1, (eNum s).2 = s1 := ⟨_, rfl⟩
 have HKD := Lib.hid (show eKind s = eWrong (decide (k ≠ 0) && decide (k ≠ 1)) s1 by unfold eKind; rw [hk, hs1])
 have HF := Lib.hid (show eEntry s = if ¬ (eKind s).e = 0 ∨ k = 0 then ((0, 0, 0, []), eKind s) else eBody (eKind s) by unfold eEntry; rw [hk])
 rw [hk, hs1] at HN
 have HBX := Lib.hid hbx
 have HZ := Lib.hid (show w.heap.size < (w.alloc zEnt).heap.size by simp)
 clear hk hs1 hI hB hok hbx hb1
 go_enter Tryz.func54, Tryz.ntmps54
 go_wp2_with fail
 refine HN.out.mono ?_
 rintro e w1 ⟨rfl, h1, h2, h3⟩
 have H1 := Lib.hid h1; have H2 := Lib.hid h2
 have HZ1 := Lib.hid (Nat.lt_of_lt_of_le HZ.out h3.size)
 have HB1 := Lib.hid ((h3.block w.heap.size HZ.out (by have := HLT.out; omega)).trans HBX.out)
 have HK2 := Lib.hid (HK1.out.trans h3)
 clear h1 h2 h3
 go_upto_region 2 with fail
 go_cut [] (fun wx => IsEye w0 wx x (eKind s) ∧ Below w0.heap.size w0 wx ∧ KeepS (fun i => i = x) w1 wx)
 case first =>
  by_cases ha : k = 0
  ·have hq : (k != 0) = false := by rw [ha]; rfl
   have HW := Lib.hid (eWrong_is H1.out H2.out false)
   have HC2 := Lib.hid (show eKind s = eWrong false s1 by rw [HKD.out, decide_eq_false (fun h => h ha), Bool.false_and])
   clear ha
   go_wp2_with fail
   refine HW.out.mono ?_
   rintro e w2 ⟨rfl, h1, h2, h3⟩
   have G1 := Lib.hid h1; have G2 := Lib.hid h2; have G3 := Lib.hid h3
   clear h1 h2 h3
   go_wp2_with fail
   go_meet
   exact ⟨by rw [HC2.out]; exact G1.out, G2.out, G3.out⟩
  ·have hq : (k != 0) = true := bne_iff_ne.2 ha
   obtain ⟨b, hb⟩ : ∃ b, (k != 1) = b := ⟨_, rfl⟩
   have HW := Lib.hid (eWrong_is H1.out H2.out b)
   have HC2 := Lib.hid (show eKind s = eWrong b s1 by
    rw [HKD.out, decide_eq_true ha, Bool.true_and]
    have : decide (k ≠ 1) = b := by
     rw [← hb, Bool.eq_iff_iff, decide_eq_true_eq, bne_iff_ne]
    rw [this])
   clear ha
   go_wp2_with fail
   refine HW.out.mono ?_
   rintro e w2 ⟨rfl, h1, h2, h3⟩
   have G1 := Lib.hid h1; have G2 := Lib.hid h2; have G3 := Lib.hid h3
   clear h1 h2 h3
   go_wp2_with fail
   go_meet
   exact ⟨by rw [HC2.out]; exact G1.out, G2.out, G3.out⟩
 case rest =>
  obtain ⟨h1, h2, h3⟩ := hcut
  obtain ⟨w2, rfl⟩ : ∃ w2, w2 = wc := ⟨_, rfl⟩
  have HIX := Lib.hid h1; have HDX := Lib.hid h2
  have HZ2 := Lib.hid (Nat.lt_of_lt_of_le HZ1.out h3.size)
  have HB2 := Lib.hid ((h3.block w.heap.size HZ1.out (by have := HLT.out; omega)).trans HB1.out)
  have HQX := Lib.hid (HK2.out.trans h3)
  obtain ⟨s2, hs2⟩ : ∃ s2, eKind s = s2 := ⟨_, rfl⟩
  rw [hs2] at HIX HF HOK
  have HIX := Lib.hid HIX.out
  have c1 : w2.cell? ⟨x, 1, none⟩ = some (.int .i64 s2.e) := by
   obtain ⟨A, c, g1, _⟩ := HIX.out
   simp [World.cell?, g1]
  have x0 : w2.cell? ⟨w.heap.size, 0, none⟩ = some (.int .i64 0) := by simp [World.cell?, HB2.out]
  have x1 : w2.cell? ⟨w.heap.size, 1, none⟩ = some (.int .i64 0) := by simp [World.cell?, HB2.out]
  have x2 : w2.cell? ⟨w.heap.size, 2, none⟩ = some (.int .i64 0) := by simp [World.cell?, HB2.out]
  have x3 : w2.cell? ⟨w.heap.size, 3, none⟩ = some (.slice none 0 0) := by simp [World.cell?, HB2.out]
  obtain ⟨y0, y1, y2, y3⟩ := bf4 HB2.out
  clear h1 h2 h3 hs2 HN HK1 HBX H1 H2 HB1 HK2 HZ HKD
  by_cases he : s2.e = 0
  ·have hq1 : (s2.e != 0) = false := by rw [he]; rfl
   by_cases hk : k = 0
   ·have hq2 : (k == 0) = true := by rw [hk]; rfl
    have HR := Lib.hid (show eEntry s = ((0, 0, 0, []), s2) by rw [HF.out, if_pos (.inr hk)])
    clear he hk
    go_wp2_with fail
    have HEB := Lib.hid (blk_put (cs := #[.int .i64 0, .int .i64 0, .int .i64 0, .slice none 0 0]) (blk_put (cs := #[.int .i64 0, .int .i64 0, .int .i64 0, .slice none 0 0]) (blk_put (cs := #[.int .i64 0, .int .i64 0, .int .i64 0, .slice none 0 0]) (blk_put (cs := #[.int .i64 0, .int .i64 0, .int .i64 0, .slice none 0 0]) (HB2.out) 0 (.int .i64 0) rfl) 1 (.int .i64 0) rfl) 2 (.int .i64 0) rfl) 3 (.slice none 0 0) rfl)
    have HKS := Lib.hid ((((((KeepS.refl (fun i => i = w.heap.size) w2)).set (p := ⟨w.heap.size, 0, none⟩) (.inl rfl) (.int .i64 0)).set (p := ⟨w.heap.size, 1, none⟩) (.inl rfl) (.int .i64 0)).set (p := ⟨w.heap.size, 2, none⟩) (.inl rfl) (.int .i64 0)).set (p := ⟨w.heap.size, 3, none⟩) (.inl rfl) (.slice none 0 0))
    obtain ⟨W, hW⟩ : ∃ W, ((((w2).setCell ⟨w.heap.size, 0, none⟩ (.int .i64 0)).setCell ⟨w.heap.size, 1, none⟩ (.int .i64 0)).setCell ⟨w.heap.size, 2, none⟩ (.int .i64 0)).setCell ⟨w.heap.size, 3, none⟩ (.slice none 0 0) = W := ⟨_, rfl⟩
    rw [hW] at HEB HKS ⊢
    clear hW
    refine bodyPost_ret (results_cell_row rfl _ _ w.heap.size 29 #[.int .i64 0, .int .i64 0, .int .i64 0, .slice none 0 0] (0, 0) _ rfl HEB.out Tryz.underlying29 rfl (by kernel_rfl)) rfl ?_
    rw [HR.out]
    have hz := HZ2.out
    have hlt := HLT.out
    have hgw := HGEW.out
    exact ⟨_, rfl, Kd.S_nil _ _ _ _ _, HIX.out.at (HKS.out.block x (by omega) (by show ¬ x = w.heap.size; omega)), HDX.out.trans (HKS.out.below (B := w0.heap.size) HDX.out.size (by rintro i rfl; omega)), HQX.out.then_base (HKS.out.below (B := w.heap.size) (by omega) (by rintro i rfl; omega))⟩
   ·have hq2 : (k == 0) = false := beq_eq_false_iff_ne.2 hk
    have HR := Lib.hid (show eEntry s = eBody s2 by rw [HF.out, if_neg (fun h => h.elim (fun h => h he) hk)])
    clear he hk
    obtain ⟨r, HR0⟩ : ∃ r, eBody s2 = r := ⟨_, rfl⟩
    have HR1 := HR0
    unfold eBody at HR1
    have ho2 := HOK.out
    obtain ⟨f, hf⟩ : ∃ f, (eSmall s2).1 = f := ⟨_, rfl⟩
    obtain ⟨s3, hs3⟩ : ∃ s3, (eSmall s2).2 = s3 := ⟨_, rfl⟩
    have ho3 := okS_small ho2
    rw [hf, hs3] at HR1
    rw [hs3] at ho3
    obtain ⟨n, hn⟩ : ∃ n, (eNum s3).1 = n := ⟨_, rfl⟩
    obtain ⟨s4, hs4⟩ : ∃ s4, (eNum s3).2 = s4 := ⟨_, rfl⟩
    have ho4 := okS_num ho3
    rw [hn, hs4] at HR1
    rw [hs4] at ho4
    obtain ⟨l, hl⟩ : ∃ l, (eList eTxn s4).1 = l := ⟨_, rfl⟩
    obtain ⟨s5, hs5⟩ : ∃ s5, (eList eTxn s4).2 = s5 := ⟨_, rfl⟩
    rw [hl, hs5] at HR1
    have HR2 := Lib.hid (show eEntry s = _ from HR.out.trans (HR0.trans HR1.symm))
    have HO1 := Lib.hid ho2; have HO2 := Lib.hid ho3; have HO3 := Lib.hid ho4
    have HE1 := Lib.hid (And.intro hf hs3); have HE2 := Lib.hid (And.intro hn hs4); have HE3 := Lib.hid (And.intro hl hs5)
    clear hf hs3 hn hs4 hl hs5 ho2 ho3 ho4 HR HR0 HR1 HF HOK y0 y1 y2 y3 x0 x1 x2 x3
    go_wp2_with fail
    have hby := heap_alloc_new w2 (.cells #[.int .i64 1, .int .i64 0, .int .i64 0, .slice none 0 0] 29)
    have hay := (Below.refl _ w2).alloc (Nat.le_refl _) (.cells #[.int .i64 1, .int .i64 0, .int .i64 0, .slice none 0 0] 29)
    have hzy : (w2.alloc (.cells #[.int .i64 1, .int .i64 0, .int .i64 0, .slice none 0 0] 29)).heap.size = w2.heap.size + 1 := by simp
    obtain ⟨w4, hw4⟩ : ∃ w4, w2.alloc (.cells #[.int .i64 1, .int .i64 0, .int .i64 0, .slice none 0 0] 29) = w4 := ⟨_, rfl⟩
    rw [hw4] at hby hay hzy ⊢
    obtain ⟨g, hg⟩ : ∃ g, w2.heap.size = g := ⟨_, rfl⟩
    have HI4 := Lib.hid (HIX.out.below hay)
    have HD4 := Lib.hid (HDX.out.trans (hay.mono HDX.out.size))
    have HB4 := Lib.hid ((hay.block w.heap.size HZ2.out).trans HB2.out)
    have HQ4 := Lib.hid (HQX.out.then_below hay)
    rw [hg] at hby hzy HZ2 ⊢
    have HY4 := Lib.hid hby
    have HGZ := Lib.hid (show w.heap.size < g ∧ x < w.heap.size from ⟨HZ2.out, HLT.out⟩)
    have HZZ4 := Lib.hid (show g < w4.heap.size by omega)
    clear hw4 hg hby hay hzy HIX HDX HB2 HQX c1
    have h4 := eSmall_is HI4.out HD4.out HO1.out
    rw [HE1.out.1, HE1.out.2] at h4
    have HNN1 := Lib.hid h4
    clear h4
    refine HNN1.out.mono ?_
    rintro e w5 ⟨rfl, h1, h2, h3⟩
    have HB5 := Lib.hid ((h3.block w.heap.size (by have := HGZ.out; have := HZZ4.out; omega) (by have := HGZ.out; omega)).trans HB4.out)
    have HY5 := Lib.hid ((h3.block g HZZ4.out (by have := HGZ.out; omega)).trans HY4.out)
    have HQ5 := Lib.hid (HQ4.out.trans h3)
    have HZZ5 := Lib.hid (Nat.lt_of_lt_of_le HZZ4.out h3.size)
    have HI5 := Lib.hid h1
    have HD5 := Lib.hid h2
    have d1 : w5.cell? ⟨g, 1, none⟩ = some (.int .i64 0) := by simp [World.cell?, HY5.out]
    have z1 : w5.frozen? ⟨g, 1, none⟩ = false := by simp [World.frozen?, HY5.out]
    clear h1 h2 h3 HNN1
    go_wp2_with fail
    have HY6 := Lib.hid (blk_put (cs := #[.int .i64 1, .int .i64 0, .int .i64 0, .slice none 0 0]) HY5.out 1 (.int .i64 f) rfl)
    have HB6 := Lib.hid ((Below.heap_setCell w5 ⟨g, 1, none⟩ (.int .i64 f) w.heap.size (by have := HGZ.out; simp; omega)).trans HB5.out)
    have HI6 := Lib.hid (HI5.out.at (Below.heap_setCell w5 ⟨g, 1, none⟩ (.int .i64 f) x (by have := HGZ.out; simp; omega)))
    have HD6 := Lib.hid (HD5.out.setCell (p := ⟨g, 1, none⟩) (by have := HGZ.out; have := HGEW.out; simp; omega) (.int .i64 f))
    have HQ6 := Lib.hid (HQ5.out.set (p := ⟨g, 1, none⟩) (.inr (by have := HGZ.out; simp; omega)) (.int .i64 f))
    have HZZ6 := Lib.hid (show g < (w5.setCell ⟨g, 1, none⟩ (.int .i64 f)).heap.size by rw [World.size_setCell]; exact HZZ5.out)
    obtain ⟨w6, hw6⟩ : ∃ w6, w5.setCell ⟨g, 1, none⟩ (.int .i64 f) = w6 := ⟨_, rfl⟩
    rw [hw6] at HY6 HB6 HI6 HD6 HQ6 HZZ6 ⊢
    clear hw6 HY5 HB5 HI5 HD5 HQ5 HZZ5 d1 z1
    have h4 := eNum_is HI6.out HD6.out HO2.out
    rw [HE2.out.1, HE2.out.2] at h4
    have HNN2 := Lib.hid h4
    clear h4
    refine HNN2.out.mono ?_
    rintro e w7 ⟨rfl, h1, h2, h3⟩
    have HB7 := Lib.hid ((h3.block w.heap.size (by have := HGZ.out; have := HZZ6.out; omega) (by have := HGZ.out; omega)).trans HB6.out)
    have HY7 := Lib.hid ((h3.block g HZZ6.out (by have := HGZ.out; omega)).trans HY6.out)
    have HQ7 := Lib.hid (HQ6.out.trans h3)
    have HZZ7 := Lib.hid (Nat.lt_of_lt_of_le HZZ6.out h3.size)
    have HI7 := Lib.hid h1
    have HD7 := Lib.hid h2
    have d2 : w7.cell? ⟨g, 2, none⟩ = some (.int .i64 0) := by simp [World.cell?, HY7.out]
    have z2 : w7.frozen? ⟨g, 2, none⟩ = false := by simp [World.frozen?, HY7.out]
    clear h1 h2 h3 HNN2
    go_wp2_with fail
    have HY8 := Lib.hid (blk_put (cs := #[.int .i64 1, .int .i64 f, .int .i64 0, .slice none 0 0]) HY7.out 2 (.int .i64 n) rfl)
    have HB8 := Lib.hid ((Below.heap_setCell w7 ⟨g, 2, none⟩ (.int .i64 n) w.heap.size (by have := HGZ.out; simp; omega)).trans HB7.out)
    have HI8 := Lib.hid (HI7.out.at (Below.heap_setCell w7 ⟨g, 2, none⟩ (.int .i64 n) x (by have := HGZ.out; simp; omega)))
    have HD8 := Lib.hid (HD7.out.setCell (p := ⟨g, 2, none⟩) (by have := HGZ.out; have := HGEW.out; simp; omega) (.int .i64 n))
    have HQ8 := Lib.hid (HQ7.out.set (p := ⟨g, 2, none⟩) (.inr (by have := HGZ.out; simp; omega)) (.int .i64 n))
    have HZZ8 := Lib.hid (show g < (w7.setCell ⟨g, 2, none⟩ (.int .i64 n)).heap.size by rw [World.size_setCell]; exact HZZ7.out)
    obtain ⟨w8, hw8⟩ : ∃ w8, w7.setCell ⟨g, 2, none⟩ (.int .i64 n) = w8 := ⟨_, rfl⟩
    rw [hw8] at HY8 HB8 HI8 HD8 HQ8 HZZ8 ⊢
    clear hw8 HY7 HB7 HI7 HD7 HQ7 HZZ7 d2 z2
    have h4 := eList_txns HI8.out HD8.out HO3.out
    rw [HE3.out.1, HE3.out.2] at h4
    have HNN3 := Lib.hid h4
    clear h4
    refine HNN3.out.mono ?_
    rintro e w9 ⟨vl, rfl, hv, h1, h2, h3⟩
    obtain ⟨Al, cl, rfl⟩ := Kd.S_slice hv
    have HV := Lib.hid (show Kd.S G.k26 26 w9 w.heap.size (fun k => k ≠ g ∧ k ≠ w.heap.size) _ l from Kd.S_mono (Kd.S_lower (Kd.S_bound hv) HQ8.out.size) (fun k hk => by
     have h7 := hk.2.1; have h9 := HGZ.out; have h8 := HZZ8.out; constructor <;> omega))
    clear hv
    have HB9 := Lib.hid ((h3.block w.heap.size (by have := HGZ.out; have := HZZ8.out; omega) (by have := HGZ.out; omega)).trans HB8.out)
    have HY9 := Lib.hid ((h3.block g HZZ8.out (by have := HGZ.out; omega)).trans HY8.out)
    have HQ9 := Lib.hid (HQ8.out.trans h3)
    have HZZ9 := Lib.hid (Nat.lt_of_lt_of_le HZZ8.out h3.size)
    have HI9 := Lib.hid h1
    have HD9 := Lib.hid h2
    have d3 : w9.cell? ⟨g, 3, none⟩ = some (.slice none 0 0) := by simp [World.cell?, HY9.out]
    have z3 : w9.frozen? ⟨g, 3, none⟩ = false := by simp [World.frozen?, HY9.out]
    clear h1 h2 h3 HNN3
    have d0 : w9.cell? ⟨g, 0, none⟩ = some (.int .i64 1) := by simp [World.cell?, HY9.out]
    have d1 : w9.cell? ⟨g, 1, none⟩ = some (.int .i64 f) := by simp [World.cell?, HY9.out]
    have d2 : w9.cell? ⟨g, 2, none⟩ = some (.int .i64 n) := by simp [World.cell?, HY9.out]
    have x0 : w9.cell? ⟨w.heap.size, 0, none⟩ = some (.int .i64 0) := by simp [World.cell?, HB9.out]
    have x1 : w9.cell? ⟨w.heap.size, 1, none⟩ = some (.int .i64 0) := by simp [World.cell?, HB9.out]
    have x2 : w9.cell? ⟨w.heap.size, 2, none⟩ = some (.int .i64 0) := by simp [World.cell?, HB9.out]
    have x3 : w9.cell? ⟨w.heap.size, 3, none⟩ = some (.slice none 0 0) := by simp [World.cell?, HB9.out]
    obtain ⟨y0, y1, y2, y3⟩ := bf4 HB9.out
    have HGN : w.heap.size ≠ g := by have := HGZ.out; omega
    go_wp2_with fail
    have HEB := Lib.hid (blk_put (cs := #[.int .i64 1, .int .i64 f, .int .i64 n, .slice none 0 0]) (blk_put (cs := #[.int .i64 1, .int .i64 f, .int .i64 0, .slice none 0 0]) (blk_put (cs := #[.int .i64 1, .int .i64 0, .int .i64 0, .slice none 0 0]) (blk_put (cs := #[.int .i64 0, .int .i64 0, .int .i64 0, .slice none 0 0]) ((Below.heap_setCell w9 ⟨g, 3, none⟩ (.slice Al l.length cl) w.heap.size HGN).trans HB9.out) 0 (.int .i64 1) rfl) 1 (.int .i64 f) rfl) 2 (.int .i64 n) rfl) 3 (.slice Al l.length cl) rfl)
    have HKS := Lib.hid (((((((KeepS.refl (fun i => i = g ∨ i = w.heap.size) w9)).set (p := ⟨g, 3, none⟩) (.inl (.inl rfl)) (.slice Al l.length cl)).set (p := ⟨w.heap.size, 0, none⟩) (.inl (.inr rfl)) (.int .i64 1)).set (p := ⟨w.heap.size, 1, none⟩) (.inl (.inr rfl)) (.int .i64 f)).set (p := ⟨w.heap.size, 2, none⟩) (.inl (.inr rfl)) (.int .i64 n)).set (p := ⟨w.heap.size, 3, none⟩) (.inl (.inr rfl)) (.slice Al l.length cl))
    obtain ⟨W, hW⟩ : ∃ W, ((((w9.setCell ⟨g, 3, none⟩ (.slice Al l.length cl)).setCell ⟨w.heap.size, 0, none⟩ (.int .i64 1)).setCell ⟨w.heap.size, 1, none⟩ (.int .i64 f)).setCell ⟨w.heap.size, 2, none⟩ (.int .i64 n)).setCell ⟨w.heap.size, 3, none⟩ (.slice Al l.length cl) = W := ⟨_, rfl⟩
    rw [hW] at HEB HKS ⊢
    clear hW
    refine bodyPost_ret (results_cell_row rfl _ _ w.heap.size 29 #[.int .i64 1, .int .i64 f, .int .i64 n, .slice Al l.length cl] (0, 0) _ rfl HEB.out Tryz.underlying29 rfl (by kernel_rfl)) rfl ?_
    rw [HR2.out]
    have hq := HQ9.out.size
    have hgz := HGZ.out
    refine ⟨_, rfl, Kd.S_mono (Kd.S_step HV.out (fun k hk hlt => HKS.out.block k hlt ?_)) (fun _ _ => trivial), HI9.out.at (HKS.out.block x (by omega) ?_), HD9.out.trans (HKS.out.below (B := w0.heap.size) HD9.out.size ?_), HQ9.out.then_base (HKS.out.below (B := w.heap.size) hq ?_)⟩
    ·rintro (h | h); exact hk.1 h; exact hk.2 h
    ·rintro (h | h) <;> omega
    ·have := HGEW.out
     rintro i (h | h) <;> omega
    ·rintro i (h | h) <;> omega
  ·have hq1 : (s2.e != 0) = true := bne_iff_ne.2 he
   have HR := Lib.hid (show eEntry s = ((0, 0, 0, []), s2) by rw [HF.out, if_pos (.inl he)])
   clear he
   go_wp2_with fail
   have HEB := Lib.hid (blk_put (cs := #[.int .i64 0, .int .i64 0, .int .i64 0, .slice none 0 0]) (blk_put (cs := #[.int .i64 0, .int .i64 0, .int .i64 0, .slice none 0 0]) (blk_put (cs := #[.int .i64 0, .int .i64 0, .int .i64 0, .slice none 0 0]) (blk_put (cs := #[.int .i64 0, .int .i64 0, .int .i64 0, .slice none 0 0]) (HB2.out) 0 (.int .i64 0) rfl) 1 (.int .i64 0) rfl) 2 (.int .i64 0) rfl) 3 (.slice none 0 0) rfl)
   have HKS := Lib.hid ((((((KeepS.refl (fun i => i = w.heap.size) w2)).set (p := ⟨w.heap.size, 0, none⟩) (.inl rfl) (.int .i64 0)).set (p := ⟨w.heap.size, 1, none⟩) (.inl rfl) (.int .i64 0)).set (p := ⟨w.heap.size, 2, none⟩) (.inl rfl) (.int .i64 0)).set (p := ⟨w.heap.size, 3, none⟩) (.inl rfl) (.slice none 0 0))
   obtain ⟨W, hW⟩ : ∃ W, ((((w2).setCell ⟨w.heap.size, 0, none⟩ (.int .i64 0)).setCell ⟨w.heap.size, 1, none⟩ (.int .i64 0)).setCell ⟨w.heap.size, 2, none⟩ (.int .i64 0)).setCell ⟨w.heap.size, 3, none⟩ (.slice none 0 0) = W := ⟨_, rfl⟩
   rw [hW] at HEB HKS ⊢
   clear hW
   refine bodyPost_ret (results_cell_row rfl _ _ w.heap.size 29 #[.int .i64 0, .int .i64 0, .int .i64 0, .slice none 0 0] (0, 0) _ rfl HEB.out Tryz.underlying29 rfl (by kernel_rfl)) rfl ?_
   rw [HR.out]
   have hz := HZ2.out
   have hlt := HLT.out
   have hgw := HGEW.out
   exact ⟨_, rfl, Kd.S_nil _ _ _ _ _, HIX.out.at (HKS.out.block x (by omega) (by show ¬ x = w.heap.size; omega)), HDX.out.trans (HKS.out.below (B := w0.heap.size) HDX.out.size (by rintro i rfl; omega)), HQX.out.then_base (HKS.out.below (B := w.heap.size) (by omega) (by rintro i rfl; omega))⟩
end Go.Proofs.YtgiefblcckikeaaGreat.M
end

section
/- TakeEntry (printed by gentake04.py). -/
attribute [local irreducible] Go.wpStill
namespace Go.Proofs.YtgiefblcckikeaaGreat.M
open Go.RowKit Go.Proofs.YtgiefblcckikeaaGreatW.PrintWords Go.Proofs.YtgiefblcckikeaaGreatW.PrintLast Go.Proofs.YtgiefblcckikeaaGreatW.PrintMore Go.Proofs.YtgiefblcckikeaaGreat.G
def eEnds (s : EyeS) (may all : Bool) : Int := if ¬ s.e = 0 then s.e else if all = true ∧ 0 < s.l.length then 13 else if s.o = true ∨ may = false then 40 else 0
theorem eEnds_is {w0 w : World} {x : Nat} {s : EyeS} (hI : IsEye w0 w x s) (may all : Bool) :
  Calls Tryz.prog 55 #[.pointer (some ⟨x, 0, none⟩), .bool may, .bool all] w fun e w' => e = .returned (.int .i64 (eEnds s may all)) ∧ w' = w := by
 obtain ⟨A, c, h1, h2, h3, h4⟩ := hI
 have c0 : w.cell? ⟨x, 0, none⟩ = some (.slice A s.l.length c) := by simp [World.cell?, h1]
 have c1 : w.cell? ⟨x, 1, none⟩ = some (.int .i64 s.e) := by simp [World.cell?, h1]
 have c2 : w.cell? ⟨x, 2, none⟩ = some (.bool s.o) := by simp [World.cell?, h1]
 clear h1 h2 h3 h4
 obtain ⟨l, e, o⟩ := s
 simp only at c0 c1 c2
 by_cases he : e = 0
 ·have hq : (e != 0) = false := by rw [he]; rfl
  cases all with
  | true =>
   by_cases hl : 0 < l.length
   ·have hq2 : decide (0 < l.length) = true := decide_eq_true (by omega)
    have HF := Lib.hid (show eEnds ⟨l, e, o⟩ may true = 13 by unfold eEnds; rw [if_neg (fun h => h he), if_pos ⟨rfl, hl⟩])
    clear he hl
    go_enter Tryz.func55, Tryz.ntmps55
    go_wp2_with fail
    go_ret
    exact ⟨by rw [HF.out]; rfl, rfl⟩
   ·have hq2 : decide (0 < l.length) = false := decide_eq_false (by omega)
    have HF := Lib.hid (show eEnds ⟨l, e, o⟩ may true = if o = true ∨ may = false then 40 else 0 by unfold eEnds; rw [if_neg (fun h => h he), if_neg (fun h => hl h.2)])
    clear he hl
    cases o <;> cases may <;> (go_enter Tryz.func55, Tryz.ntmps55; go_wp2_with fail; go_ret; exact ⟨by rw [HF.out]; rfl, rfl⟩)
  | false =>
   have HF := Lib.hid (show eEnds ⟨l, e, o⟩ may false = if o = true ∨ may = false then 40 else 0 by unfold eEnds; rw [if_neg (fun h => h he), if_neg (fun h => by cases h.1)])
   clear he
   cases o <;> cases may <;> (go_enter Tryz.func55, Tryz.ntmps55; go_wp2_with fail; go_ret; exact ⟨by rw [HF.out]; rfl, rfl⟩)
 ·have hq : (e != 0) = true := bne_iff_ne.2 he
  have HF := Lib.hid (show eEnds ⟨l, e, o⟩ may all = e by unfold eEnds; rw [if_pos he])
  clear he
  go_enter Tryz.func55, Tryz.ntmps55
  go_wp2_with fail
  go_ret
  exact ⟨by rw [HF.out]; rfl, rfl⟩
def takeEn (l : List Int) : EnD × Int :=
 if eEnds (eEntry ⟨l, 0, false⟩).2 (mayE (eEntry ⟨l, 0, false⟩).1.1 (eEntry ⟨l, 0, false⟩).1.2.1 (eEntry ⟨l, 0, false⟩).1.2.2.1 (eEntry ⟨l, 0, false⟩).1.2.2.2) true = 0 then ((eEntry ⟨l, 0, false⟩).1, 0)
 else ((0, 0, 0, []), eEnds (eEntry ⟨l, 0, false⟩).2 (mayE (eEntry ⟨l, 0, false⟩).1.1 (eEntry ⟨l, 0, false⟩).1.2.1 (eEntry ⟨l, 0, false⟩).1.2.2.1 (eEntry ⟨l, 0, false⟩).1.2.2.2) true)
abbrev oEye (A : Option Addr) (n c : Nat) : Obj := .cells #[.slice A n c, .int .i64 0, .bool false] 81
set_option maxHeartbeats 4000000 in
theorem takeEn_is (A : Option Addr) (c : Nat) (l : List Int) (w : World) (hr : Kd.C (Kd.int .u8) w A l.length l) (hc : l.length ≤ c) (hb : okB l = true) (hl : l.length < 140737488355328) :
  Calls Tryz.prog 23 #[.slice A l.length c] w fun e w' => ∃ v : Value, e = .returned (.tuple #[.agg #[.int .i64 (takeEn l).1.1, .int .i64 (takeEn l).1.2.1, .int .i64 (takeEn l).1.2.2.1, v], .int .i64 (takeEn l).2]) ∧ Kd.S G.k26 26 w' w.heap.size (fun _ => True) v (takeEn l).1.2.2.2 ∧ Below w.heap.size w w' := by
 have h0 := heap_alloc_new w zEnt
 have s1 : (w.alloc zEnt).heap.size = w.heap.size + 1 := by simp
 have h1 := heap_alloc_new (w.alloc zEnt) (oEye A l.length c)
 have s2 : ((w.alloc zEnt).alloc (oEye A l.length c)).heap.size = w.heap.size + 1 + 1 := by simp
 have b1 := ((Below.refl _ w).alloc (Nat.le_refl _) zEnt).alloc (by simp) (oEye A l.length c)
 have g1 : ((w.alloc zEnt).alloc (oEye A l.length c)).heap[w.heap.size]? = some zEnt := by
  have := (Below.refl _ (w.alloc zEnt)).alloc (Nat.le_refl _) (oEye A l.length c)
  exact (this.block w.heap.size (by omega)).trans h0
 rw [s1] at h1
 go_enter Tryz.func23, Tryz.ntmps23
 go_wp2_with fail
 obtain ⟨w2, hw2⟩ : ∃ w2, (w.alloc zEnt).alloc (oEye A l.length c) = w2 := ⟨_, rfl⟩
 obtain ⟨x, hx⟩ : ∃ x, w.heap.size + 1 = x := ⟨_, rfl⟩
 rw [hw2] at h1 s2 b1 g1 ⊢
 rw [hx] at h1 s1 s2 ⊢
 have HI := Lib.hid (show IsEye w w2 x ⟨l, 0, false⟩ from ⟨A, c, h1, by omega, hc, hr⟩)
 have HX := Lib.hid hx; have HS2 := Lib.hid s2; have HB2 := Lib.hid b1; have HG2 := Lib.hid g1
 have HN := Lib.hid (eEntry_is HI.out HB2.out (s := ⟨l, 0, false⟩) ⟨hb, hl⟩)
 obtain ⟨r, hr1⟩ : ∃ r, takeEn l = r := ⟨_, rfl⟩
 have hr2 := hr1
 unfold takeEn at hr2
 obtain ⟨y, hy⟩ : ∃ y, (eEntry ⟨l, 0, false⟩).1 = y := ⟨_, rfl⟩
 obtain ⟨s', hs'⟩ : ∃ s', (eEntry ⟨l, 0, false⟩).2 = s' := ⟨_, rfl⟩
 rw [hy, hs'] at hr2 HN
 obtain ⟨k, f, n, t⟩ := y
 simp only at hr2
 obtain ⟨er, her⟩ : ∃ er, eEnds s' (mayE k f n t) true = er := ⟨_, rfl⟩
 rw [her] at hr2
 have HER := Lib.hid her; have HR1 := Lib.hid hr1; have HR2 := Lib.hid hr2
 clear h0 s1 h1 s2 b1 g1 hw2 hx hy hs' hr2 hr1 her hr hc hb hl
 refine HN.out.mono ?_
 rintro e w3 ⟨v, rfl, hv, h1, h2, h3⟩
 obtain ⟨At, ct, rfl, htc, hC⟩ := Kd.S_reads hv
 simp only at hv hC htc
 have HZ2 := Lib.hid (show w.heap.size < w2.heap.size by have := HS2.out; have := HX.out; omega)
 have HV := Lib.hid (show Kd.S G.k26 26 w3 w.heap.size (fun k => k ≠ w.heap.size ∧ k < w3.heap.size) (.slice At t.length ct) t from Kd.S_mono (Kd.S_lower (Kd.S_bound hv) (Nat.le_of_lt HZ2.out)) (fun k hk => ⟨by have h7 := hk.2.1; have := HZ2.out; omega, hk.2.2.1⟩))
 have HC := Lib.hid hC
 have HI3 := Lib.hid h1; have HB3 := Lib.hid h2
 have HG3 := Lib.hid ((h3.block w.heap.size HZ2.out (by have := HX.out; omega)).trans HG2.out)
 have HZ3 := Lib.hid (Nat.lt_of_lt_of_le HZ2.out h3.size)
 clear hv hC htc h1 h2 h3 HN HI HB2 HG2
 go_wp2_with fail
 have hby := heap_alloc_new w3 (.cells #[.int .i64 k, .int .i64 f, .int .i64 n, .slice At t.length ct] 29)
 have hay := (Below.refl _ w3).alloc (Nat.le_refl _) (.cells #[.int .i64 k, .int .i64 f, .int .i64 n, .slice At t.length ct] 29)
 have hzy : (w3.alloc (.cells #[.int .i64 k, .int .i64 f, .int .i64 n, .slice At t.length ct] 29)).heap.size = w3.heap.size + 1 := by simp
 obtain ⟨w4, hw4⟩ : ∃ w4, w3.alloc (.cells #[.int .i64 k, .int .i64 f, .int .i64 n, .slice At t.length ct] 29) = w4 := ⟨_, rfl⟩
 rw [hw4] at hby hay hzy ⊢
 have HM := Lib.hid (mayEn_is k f n At ct t w4 (Kd.C_below HC.out hay))
 have HI4 := Lib.hid (HI3.out.below hay)
 have HB4 := Lib.hid (HB3.out.trans (hay.mono HB3.out.size))
 have HG4 := Lib.hid ((hay.block w.heap.size HZ3.out).trans HG3.out)
 have HV4 := Lib.hid (Kd.S_below HV.out hay)
 obtain ⟨g, hg⟩ : ∃ g, w3.heap.size = g := ⟨_, rfl⟩
 rw [hg] at hby hzy HV4 HZ3 ⊢
 have HY4 := Lib.hid hby
 have HZ4 := Lib.hid (show w.heap.size < g ∧ g < w4.heap.size ∧ x < w4.heap.size from ⟨HZ3.out, by omega, HI4.out.lt⟩)
 have d0 : w4.cell? ⟨g, 0, none⟩ = some (.int .i64 k) := by simp [World.cell?, HY4.out]
 have d1 : w4.cell? ⟨g, 1, none⟩ = some (.int .i64 f) := by simp [World.cell?, HY4.out]
 have d2 : w4.cell? ⟨g, 2, none⟩ = some (.int .i64 n) := by simp [World.cell?, HY4.out]
 have d3 : w4.cell? ⟨g, 3, none⟩ = some (.slice At t.length ct) := by simp [World.cell?, HY4.out]
 clear hw4 hg hby hay hzy HI3 HB3 HG3 HV HC
 go_wp2_with fail
 refine HM.out.mono ?_
 rintro e w5 ⟨rfl, hb5⟩
 have HI5 := Lib.hid (HI4.out.below hb5)
 have HE := Lib.hid (eEnds_is HI5.out (mayE k f n t) true)
 rw [HER.out] at HE
 have HB5 := Lib.hid (HB4.out.trans (hb5.mono HB4.out.size))
 have HG5 := Lib.hid ((hb5.block w.heap.size (by have := HZ4.out; omega)).trans HG4.out)
 have HY5 := Lib.hid ((hb5.block g HZ4.out.2.1).trans HY4.out)
 have HV5 := Lib.hid (Kd.S_below HV4.out hb5)
 clear hb5 d0 d1 d2 d3 HI4 HB4 HG4 HY4 HV4 HM
 go_wp2_with fail
 refine HE.out.mono ?_
 rintro e w6 ⟨rfl, rfl⟩
 have d0 : w6.cell? ⟨g, 0, none⟩ = some (.int .i64 k) := by simp [World.cell?, HY5.out]
 have d1 : w6.cell? ⟨g, 1, none⟩ = some (.int .i64 f) := by simp [World.cell?, HY5.out]
 have d2 : w6.cell? ⟨g, 2, none⟩ = some (.int .i64 n) := by simp [World.cell?, HY5.out]
 have d3 : w6.cell? ⟨g, 3, none⟩ = some (.slice At t.length ct) := by simp [World.cell?, HY5.out]
 have x0 : w6.cell? ⟨w.heap.size, 0, none⟩ = some (.int .i64 0) := by simp [World.cell?, HG5.out]
 have x1 : w6.cell? ⟨w.heap.size, 1, none⟩ = some (.int .i64 0) := by simp [World.cell?, HG5.out]
 have x2 : w6.cell? ⟨w.heap.size, 2, none⟩ = some (.int .i64 0) := by simp [World.cell?, HG5.out]
 have x3 : w6.cell? ⟨w.heap.size, 3, none⟩ = some (.slice none 0 0) := by simp [World.cell?, HG5.out]
 obtain ⟨y0, y1, y2, y3⟩ := bf4 HG5.out
 have HGN : w.heap.size ≠ g := by have := HZ4.out; omega
 by_cases he : er = 0
 ·have hq : (er != 0) = false := by rw [he]; rfl
  have HR := Lib.hid (show takeEn l = ((k, f, n, t), 0) by rw [HR1.out, ← HR2.out, if_pos he])
  clear he
  go_wp2_with fail
  have HEB := Lib.hid (blk_put (cs := #[.int .i64 k, .int .i64 f, .int .i64 n, .slice none 0 0]) (blk_put (cs := #[.int .i64 k, .int .i64 f, .int .i64 0, .slice none 0 0]) (blk_put (cs := #[.int .i64 k, .int .i64 0, .int .i64 0, .slice none 0 0]) (blk_put (cs := #[.int .i64 0, .int .i64 0, .int .i64 0, .slice none 0 0]) (HG5.out) 0 (.int .i64 k) rfl) 1 (.int .i64 f) rfl) 2 (.int .i64 n) rfl) 3 (.slice At t.length ct) rfl)
  have HKS := Lib.hid ((((((KeepS.refl (fun i => i = w.heap.size) w6)).set (p := ⟨w.heap.size, 0, none⟩) (.inl rfl) (.int .i64 k)).set (p := ⟨w.heap.size, 1, none⟩) (.inl rfl) (.int .i64 f)).set (p := ⟨w.heap.size, 2, none⟩) (.inl rfl) (.int .i64 n)).set (p := ⟨w.heap.size, 3, none⟩) (.inl rfl) (.slice At t.length ct))
  obtain ⟨W, hW⟩ : ∃ W, ((((w6).setCell ⟨w.heap.size, 0, none⟩ (.int .i64 k)).setCell ⟨w.heap.size, 1, none⟩ (.int .i64 f)).setCell ⟨w.heap.size, 2, none⟩ (.int .i64 n)).setCell ⟨w.heap.size, 3, none⟩ (.slice At t.length ct) = W := ⟨_, rfl⟩
  rw [hW] at HEB HKS ⊢
  clear hW
  refine bodyPost_ret (results_ct rfl _ _ w.heap.size 29 #[.int .i64 k, .int .i64 f, .int .i64 n, .slice At t.length ct] (0, 0) _ rfl HEB.out Tryz.underlying29 rfl (by kernel_rfl)) rfl ?_
  rw [HR.out]
  refine ⟨_, rfl, Kd.S_mono (Kd.S_step HV5.out (fun k hk hlt => HKS.out.block k hlt hk.1)) (fun _ _ => trivial), HB5.out.trans (HKS.out.below (B := w.heap.size) HB5.out.size (by rintro i rfl; exact Nat.le_refl _))⟩
 ·have hq : (er != 0) = true := bne_iff_ne.2 he
  have HR := Lib.hid (show takeEn l = ((0, 0, 0, []), er) by rw [HR1.out, ← HR2.out, if_neg he])
  clear he
  go_wp2_with fail
  have HEB := Lib.hid (blk_put (cs := #[.int .i64 0, .int .i64 0, .int .i64 0, .slice none 0 0]) (blk_put (cs := #[.int .i64 0, .int .i64 0, .int .i64 0, .slice none 0 0]) (blk_put (cs := #[.int .i64 0, .int .i64 0, .int .i64 0, .slice none 0 0]) (blk_put (cs := #[.int .i64 0, .int .i64 0, .int .i64 0, .slice none 0 0]) (HG5.out) 0 (.int .i64 0) rfl) 1 (.int .i64 0) rfl) 2 (.int .i64 0) rfl) 3 (.slice none 0 0) rfl)
  have HKS := Lib.hid ((((((KeepS.refl (fun i => i = w.heap.size) w6)).set (p := ⟨w.heap.size, 0, none⟩) (.inl rfl) (.int .i64 0)).set (p := ⟨w.heap.size, 1, none⟩) (.inl rfl) (.int .i64 0)).set (p := ⟨w.heap.size, 2, none⟩) (.inl rfl) (.int .i64 0)).set (p := ⟨w.heap.size, 3, none⟩) (.inl rfl) (.slice none 0 0))
  obtain ⟨W, hW⟩ : ∃ W, ((((w6).setCell ⟨w.heap.size, 0, none⟩ (.int .i64 0)).setCell ⟨w.heap.size, 1, none⟩ (.int .i64 0)).setCell ⟨w.heap.size, 2, none⟩ (.int .i64 0)).setCell ⟨w.heap.size, 3, none⟩ (.slice none 0 0) = W := ⟨_, rfl⟩
  rw [hW] at HEB HKS ⊢
  clear hW
  refine bodyPost_ret (results_ct rfl _ _ w.heap.size 29 #[.int .i64 0, .int .i64 0, .int .i64 0, .slice none 0 0] (0, 0) _ rfl HEB.out Tryz.underlying29 rfl (by kernel_rfl)) rfl ?_
  rw [HR.out]
  refine ⟨_, rfl, Kd.S_nil _ _ _ _ _, HB5.out.trans (HKS.out.below (B := w.heap.size) HB5.out.size (by rintro i rfl; exact Nat.le_refl _))⟩
end Go.Proofs.YtgiefblcckikeaaGreat.M
namespace Go.Proofs.YtgiefblcckikeaaGreat.G
open Go.RowKit Go.Proofs.YtgiefblcckikeaaGreatW.PrintWords Go.Proofs.YtgiefblcckikeaaGreat.M
def record_TakeEntry.f (l0 : List Int) : Option (Int × Int × Int × List S26 × Int) := if okB l0 = true ∧ l0.length < 140737488355328 then some ((takeEn l0).1.1, (takeEn l0).1.2.1, (takeEn l0).1.2.2.1, (takeEn l0).1.2.2.2, (takeEn l0).2) else none
theorem record_TakeEntry.calls (A0 : Option Addr) (c0 : Nat) (l0 : List Int) (r1 r2 r3 : Int) (r4 : List S26) (r5 : Int) (w : World) (hr0 : Kd.C (Kd.int .u8) w A0 l0.length l0) (hc0 : l0.length ≤ c0) (h : record_TakeEntry.f l0 = some (r1, r2, r3, r4, r5)) :
  Calls Tryz.prog 23 #[.slice A0 l0.length c0] w fun e w' => ∃ v3_ : Value, e = .returned (.tuple #[.agg #[.int .i64 r1, .int .i64 r2, .int .i64 r3, v3_], .int .i64 r5]) ∧ Kd.S k26 26 w' w.heap.size (fun _ => True) v3_ r4 ∧ Below w.heap.size w w' := by
 unfold record_TakeEntry.f at h
 split at h
 ·next hq =>
  simp only [Option.some.injEq, Prod.mk.injEq] at h
  obtain ⟨rfl, rfl, rfl, rfl, rfl⟩ := h
  exact takeEn_is A0 c0 l0 w hr0 hc0 hq.1 hq.2
 ·cases h
end Go.Proofs.YtgiefblcckikeaaGreat.G
end

section
/- What a law is handed: any type of numbers, bools, slices and structs, opened as Lean data (its kind 'Kd'), with its bounds; the row's frame. -/
namespace Go.Proofs.YtgiefblcckikeaaGreat.M
open Go.RowKit Go.ChangeShapes Go.WideShapes Go.ChangeAt Go.Proofs.YtgiefblcckikeaaGreatW.PrintWords
structure Opens {α : Type} (P : Program) (T : TypeId) (d : Kd α) (ok : α → Prop) (sz : α → Nat) : Prop where
 cells : P.cellsOf T = d.sz
 heap : Kd.Heap d
 open_ : ∀ {H : Type} {enc : TypeId × Value → H} {W : World} {base : Nat} {spare : Nat → Bool} {held : Bool} {fuel : Nat} {cs : List Value} {x : DataW H × List MemPlace},
  DataW.trod enc P W base spare held fuel T cs = some x → ∃ y, d.K W y cs ∧ ok y ∧ sz y ≤ Rows.uptoBulk x.1
theorem opens_int {P : Program} {T : TypeId} {k : IntKind} (ht : P.underlying T = some (.int k)) (hc : P.cellsOf T = 1) : Opens P T (Kd.int k) (fun x => (Lit.int k x).wf = true) (fun _ => 1) :=
 ⟨hc, Kd.heap_int k, fun h => by
  obtain ⟨n, rfl, rfl, hw⟩ := DataW.trod_int ht h
  exact ⟨n, rfl, hw, Nat.le_refl _⟩⟩
theorem opens_bool {P : Program} {T : TypeId} (ht : P.underlying T = some .bool) (hc : P.cellsOf T = 1) : Opens P T Kd.bool (fun _ => True) (fun _ => 1) :=
 ⟨hc, Kd.heap_bool, fun h => by
  obtain ⟨n, rfl, rfl⟩ := DataW.trod_bool ht h
  exact ⟨n, rfl, trivial, Nat.le_refl _⟩⟩
theorem exists_list {α : Type} (p : Nat → α → Prop) : ∀ n, (∀ i, i < n → ∃ y, p i y) → ∃ l : List α, l.length = n ∧ ∀ i y, l[i]? = some y → p i y
 | 0, _ => ⟨[], rfl, fun i y h => by simp at h⟩
 | n + 1, h => by
  obtain ⟨l, hl, hp⟩ := exists_list p n (fun i hi => h i (by omega))
  obtain ⟨y, hy⟩ := h n (by omega)
  refine ⟨l ++ [y], by simp [hl], fun i z hz => ?_⟩
  rcases Nat.lt_or_ge i l.length with hi | hi
  ·rw [List.getElem?_append_left hi] at hz; exact hp i z hz
  ·have : i = l.length := by have := (List.getElem?_eq_some_iff.1 hz).1; simp at this; omega
   subst this
   simp at hz
   subst hz
   rw [hl]; exact hy
def szL {α : Type} (sz : α → Nat) (l : List α) : Nat := (l.map sz).sum + 1
theorem sum_le {α H : Type} (sz : α → Nat) : ∀ (l : List α) (ds : List (DataW H)), l.length = ds.length → (∀ (i : Nat) y d, l[i]? = some y → ds[i]? = some d → sz y ≤ Rows.uptoBulk d) → (l.map sz).sum ≤ Rows.uptoBulkAll ds
 | [], _, _, _ => by simp
 | y :: l, [], h, _ => by simp at h
 | y :: l, d :: ds, h, hp => by
  have h1 := hp 0 y d rfl rfl
  have h2 := sum_le sz l ds (by simpa using h) (fun i y' d' h3 h4 => hp (i + 1) y' d' (by simpa using h3) (by simpa using h4))
  simp only [List.map_cons, List.sum_cons, Rows.uptoBulkAll]
  omega
theorem opens_slice {α : Type} {P : Program} {T e : TypeId} {d : Kd α} {ok : α → Prop} {sz : α → Nat} (ht : P.underlying T = some (.slice e)) (hc : P.cellsOf T = 1) (he : Opens P e d ok sz) :
  Opens P T (Kd.slice e d) (fun l => l.length ≤ 9223372036854775807 ∧ ∀ x ∈ l, ok x) (szL sz) :=
 ⟨hc, Kd.heap_slice e he.heap, fun {H enc W base spare held fuel cs x} h => by
  rcases DataW.trod_slice ht h with ⟨rfl, rfl⟩ | ⟨a, len, cap, elems, rest, n, rfl, rfl, rfl, hb, hl, hm, hlen, hel, hsp, hns⟩
  ·exact ⟨[], ⟨none, 0, rfl, Nat.le_refl _, Kd.C_nil d W⟩, ⟨by simp, by simp⟩, by simp [szL, Rows.uptoBulk]⟩
  ·have each : ∀ i, i < len → ∃ y, (∃ c, c.length = d.sz ∧ d.K W y c ∧ ∀ j u, c[j]? = some u → W.cell? (a.add (i * d.sz + j)) = some u) ∧ ok y ∧ ∀ z, elems[i]? = some z → sz y ≤ Rows.uptoBulk z.1 := by
    intro i hi
    have h1 := hel i hi
    have h2 : elems[i]? = some (elems[i]'(by omega)) := List.getElem?_eq_getElem _
    rw [h2, Option.bind_eq_some_iff] at h1
    obtain ⟨c, h3, h4⟩ := h1
    obtain ⟨_, h5, h6⟩ := World.cells?_some h3
    obtain ⟨y, h7, h8, h9⟩ := he.open_ h4
    refine ⟨y, ⟨c, by rw [h5, he.cells], h7, fun j u hj => ?_⟩, h8, fun z hz => by rw [h2] at hz; cases hz; exact h9⟩
    have hjl : j < c.length := (List.getElem?_eq_some_iff.1 hj).1
    have := h6 j (by omega)
    rw [add_add, he.cells] at this
    rw [this, hj]
   obtain ⟨l, h1, h2⟩ := exists_list _ len each
   have hm2 : len ≤ 9223372036854775807 := by simp only [maxLen] at hm; omega
   refine ⟨l, ⟨some a, cap, by rw [h1], by omega, h1 ▸ ⟨h1, by omega, fun _ => ⟨a, rfl, fun j p hj => (h2 j p hj).1⟩⟩⟩, ⟨by omega, fun y hy => ?_⟩, ?_⟩
   ·obtain ⟨i, hi⟩ := List.getElem?_of_mem hy
    exact (h2 i y hi).2.1
   ·have h3 := sum_le sz l (elems.map (·.1)) (by simp; omega) (fun i y z hy hz => by
     rw [List.getElem?_map, Option.map_eq_some_iff] at hz
     obtain ⟨q, hq, rfl⟩ := hz
     exact (h2 i y hy).2.2 q hq)
    simp only [szL, Rows.uptoBulk]
    omega⟩
structure OpensL {α : Type} (P : Program) (fs : List Field) (off : Nat) (d : Kd α) (ok : α → Prop) (sz : α → Nat) : Prop where
 heap : Kd.Heap d
 open_ : ∀ {H : Type} {enc : TypeId × Value → H} {W : World} {base : Nat} {spare : Nat → Bool} {held : Bool} {fuel : Nat} {cs : List Value} {xs : List (DataW H × List MemPlace)},
  cs.length = off + d.sz → xs.length = fs.length → (∀ (i : Nat) (f : Field), fs[i]? = some f → DataW.trod enc P W base spare held fuel f.type ((cs.drop f.offset).take (P.cellsOf f.type)) = xs[i]?) →
  ∃ y, d.K W y (cs.drop off) ∧ ok y ∧ sz y ≤ Rows.uptoBulkAll (xs.map (·.1))
theorem opensL_one {α : Type} {P : Program} {f : Field} {off : Nat} {d : Kd α} {ok : α → Prop} {sz : α → Nat} (hf : f.offset = off) (he : Opens P f.type d ok sz) : OpensL P [f] off d ok sz :=
 ⟨he.heap, fun {H enc W base spare held fuel cs xs} hcs hxs h => by
  match xs, hxs with
  | [x], _ =>
   have h1 := h 0 f rfl
   rw [he.cells, hf, List.take_of_length_le (by simp; omega)] at h1
   obtain ⟨y, h2, h3, h4⟩ := he.open_ h1
   exact ⟨y, h2, h3, by simp [Rows.uptoBulkAll]; exact h4⟩⟩
theorem opensL_cons {α β : Type} {P : Program} {f : Field} {fs : List Field} {off : Nat} {a : Kd α} {b : Kd β} {oka : α → Prop} {okb : β → Prop} {sza : α → Nat} {szb : β → Nat} (hf : f.offset = off) (he : Opens P f.type a oka sza) (hl : OpensL P fs (off + a.sz) b okb szb) :
  OpensL P (f :: fs) off (Kd.pair a b) (fun x => oka x.1 ∧ okb x.2) (fun x => sza x.1 + szb x.2) :=
 ⟨Kd.heap_pair he.heap hl.heap, fun {H enc W base spare held fuel cs xs} hcs hxs h => by
  have hcs' : cs.length = off + (a.sz + b.sz) := hcs
  match xs, hxs with
  | x :: xs, hxs =>
   have h1 := h 0 f rfl
   rw [he.cells, hf] at h1
   obtain ⟨y, h2, h3, h4⟩ := he.open_ h1
   obtain ⟨z, h5, h6, h7⟩ := hl.open_ (cs := cs) (xs := xs) (by omega) (by simpa using hxs) (fun i f hi => h (i + 1) f (by simpa using hi))
   refine ⟨(y, z), ⟨_, _, ?_, h2, h5⟩, ⟨h3, h6⟩, ?_⟩
   ·rw [← List.drop_drop, List.take_append_drop]
   ·simp only [List.map_cons, Rows.uptoBulkAll]
    omega⟩
theorem opens_struct {α β : Type} {P : Program} {T : TypeId} {fs : Array Field} {d : Kd α} {ok : α → Prop} {sz : α → Nat} (f : β → α) (g : α → β) (hfg : ∀ a, f (g a) = a) (ht : P.underlying T = some (.struct fs)) (hc : P.cellsOf T = d.sz) (hl : OpensL P fs.toList 0 d ok sz) :
  Opens P T (Kd.iso d f) (fun y => ok (f y)) (fun y => sz (f y) + 1) :=
 ⟨hc, Kd.heap_iso f hl.heap, fun {H enc W base spare held fuel cs x} h => by
  obtain ⟨xs, n, rfl, rfl, h1, h2, h3⟩ := DataW.trod_struct ht h
  obtain ⟨y, h4, h5, h6⟩ := hl.open_ (cs := cs) (xs := xs) (by omega) (by simpa using h2) (fun i f hi => h3 i f (by simpa using hi))
  rw [List.drop_zero] at h4
  exact ⟨g y, by show d.K W (f (g y)) cs; rw [hfg]; exact h4, by rw [hfg]; exact h5, by rw [hfg]; simp only [Rows.uptoBulk]; omega⟩⟩
theorem FK_of_K {α : Type} {d : Kd α} (hd : Kd.Heap d) {W : World} {x : α} {cs : List Value} (h : d.K W x cs) : Kd.FK d W (fun k => k < W.heap.size) x cs :=
 fun W' hW => hd.K (fun k hk => hW k hk hk) h
theorem F_of_C {α : Type} {d : Kd α} (hd : Kd.Heap d) {W : World} {A : Option Addr} {n : Nat} {xs : List α} (h : d.C W A n xs) : Kd.F d W (fun k => k < W.heap.size) A n xs :=
 fun W' hW => hd.C (fun k hk => hW k hk hk) h
section
variable {H : Type} {enc : TypeId × Value → H} {P : Program} {W : World} {base b0 : Nat} {spare : Nat → Bool} {held : Bool} {r : Reach} {t : TypeId} {v : Value} {x : DataW H} {ps : List MemPlace}
theorem arg_slice {α : Type} {e : TypeId} {d : Kd α} {ok : α → Prop} {sz : List α → Nat} (he : Opens P t (Kd.slice e d) (fun l => l.length ≤ 9223372036854775807 ∧ ∀ x ∈ l, ok x) sz) (hd : Kd.Heap d) (ht : P.underlying t = some (.slice e)) (hv : Value.okWide P W r b0 t v) (h : DataW.Trod enc P W base spare held t v x ps) :
  ∃ (A : Option Addr) (c : Nat) (l : List α), v = .slice A l.length c ∧ l.length ≤ c ∧ Kd.F d W (fun k => k < W.heap.size) A l.length l ∧ (∀ y ∈ l, ok y) ∧ sz l ≤ Rows.uptoBulk x := by
 obtain ⟨a, len, cap, rfl⟩ := okWide_slice ht hv
 obtain ⟨fuel, hf⟩ := h
 obtain ⟨l, ⟨A, c, h1, h2, h3⟩, h4, h5⟩ := he.open_ hf
 simp only [Value.cells, Array.toList, List.cons.injEq, Value.slice.injEq, and_true] at h1
 obtain ⟨rfl, rfl, rfl⟩ := h1
 exact ⟨_, _, l, rfl, h2, F_of_C hd h3, h4.2, h5⟩
theorem arg_struct {α : Type} {fs : Array Field} {d : Kd α} {ok : α → Prop} {sz : α → Nat} (he : Opens P t d ok sz) (ht : P.underlying t = some (.struct fs)) (hv : Value.okWide P W r b0 t v) (h : DataW.Trod enc P W base spare held t v x ps) :
  ∃ (cs : Array Value) (y : α), v = .agg cs ∧ Kd.FK d W (fun k => k < W.heap.size) y cs.toList ∧ ok y ∧ sz y ≤ Rows.uptoBulk x := by
 obtain ⟨cs, rfl, hsz⟩ := okWide_struct ht hv
 obtain ⟨fuel, hf⟩ := h
 obtain ⟨y, h3, h4, h5⟩ := he.open_ hf
 exact ⟨cs, y, rfl, FK_of_K he.heap (by simpa [Value.cells] using h3), h4, h5⟩
end
theorem own : ownKnob Tryz.prog.godebug = none := by kernel_rfl
theorem laidOut : laidOutB Tryz.prog = true := by kernel_rfl
end Go.Proofs.YtgiefblcckikeaaGreat.M
end
