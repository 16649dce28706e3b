/- SequencerDoesSaid: contracts of the functions that the law goes through, put together in build order (part 5 of 5). -/
import Derived.Test.YtgmlpmdfkaadhaaPart3
import Derived.Shelf.SlMaps.Clone
import Derived.Lib.Hide
import Derived.RangeFuncNested
import Derived.RangeFuncBound
import Derived.RangeFuncCalls
import Derived.RangeFuncLeaves
import Derived.RangeFuncBox
import Derived.Shelf.Abstract
import Derived.WalkKit
import Derived.OwnWalkIn
import Derived.TacticsInMore
import Derived.LoopNIn
import Derived.LoopIn
set_option linter.unusedVariables false
set_option linter.unusedSimpArgs false
set_option maxRecDepth 100000
section
-- Written by a program of this session's (wip/gprint.py over the kit's printer).
namespace Go.Proofs.Ytgmlpmdfkaadhaa.G
open Go.RowKit Go.Proofs.YtgmlpmdfkaadhaaW.PrintWords Go.Proofs.YtgmlpmdfkaadhaaW.PrintLast Go.Proofs.YtgmlpmdfkaadhaaW.PrintMore
attribute [local go_sem] max2_int min2_int max_two min_two max_three min_three max_four min_four   -- for this text's walks alone
def trivetref04_EntryForm.l0 : Nat → List Int → Int → Int → Int → Int → List (S32) → Option (List Int)
 | 0, _, _, _, _, _, _ => none
 | k + 1, x3, x4, x255000, x255001, x255002, x255003 => if x4 < (x255003.length : Int) then (if 0 ≤ x4 then ((trivetref04_TxnForm.f k ((rd_T32 x255003 x4).f0) ((rd_T32 x255003 x4).f1) ((rd_T32 x255003 x4).f2) ((rd_T32 x255003 x4).f3) ((rd_T32 x255003 x4).f4) ((rd_T32 x255003 x4).f5)).bind fun t268 => (if x3.length + t268.length < 140737488355328 then (trivetref04_EntryForm.l0 k (x3 ++ t268) (wrap64 (x4 + 1)) x255000 x255001 x255002 x255003) else (none))) else (none)) else (some x3)
def trivetref04_EntryForm.f (k : Nat) (a0_0 : Int) (a0_1 : Int) (a0_2 : Int) (l0_3 : List (S32)) : Option (List Int) := (trivetref04_num.f k ([] : List Int) (([a0_0] : List Int))).bind fun t258 => (if a0_0 = 1 then ((trivetref04_num.f k t258 (([a0_1, a0_2, (l0_3.length : Int)] : List Int))).bind fun t264 => (trivetref04_EntryForm.l0 k t264 0 a0_0 a0_1 a0_2 l0_3)) else (some t258))
set_option maxHeartbeats 8000000 in
set_option maxRecDepth 100000 in
theorem trivetref04_EntryForm.calls (k : Nat) (a0_0 : Int) (a0_1 : Int) (a0_2 : Int) (A0_3 : Option Addr) (c0_3 : Nat) (l0_3 : List (S32)) (r : List Int) (w : World) (hr0_3 : Kd.C k32 w A0_3 l0_3.length l0_3) (hc0_3 : l0_3.length ≤ c0_3) (h : trivetref04_EntryForm.f k a0_0 a0_1 a0_2 l0_3 = some r) :
  Calls Try.prog 32 #[.agg #[.int .i64 a0_0, .int .i64 a0_1, .int .i64 a0_2, .slice A0_3 l0_3.length c0_3]] w fun e w' => ∃ v0_ : Value, e = .returned (v0_) ∧ Kd.R (Kd.int .u8) 5 w' w.heap.size (fun _ => True) v0_ r ∧ Below w.heap.size w w' := by
 have hu36 := Try.underlying36
 have hu32 := Try.underlying32
 have HR0_3 := Aside0.mk hr0_3
 have HC0_3 := Aside0.mk hc0_3
 clear hr0_3 hc0_3
 have HB := Aside0.mk (Below.refl w.heap.size w)
 have H : ((trivetref04_num.f k ([] : List Int) (([a0_0] : List Int))).bind fun t258 => (if a0_0 = 1 then ((trivetref04_num.f k t258 (([a0_1, a0_2, (l0_3.length : Int)] : List Int))).bind fun t264 => (trivetref04_EntryForm.l0 k t264 0 a0_0 a0_1 a0_2 l0_3)) else (some t258))) = some r := h
 clear h
 obtain ⟨y255, hy255⟩ : ∃ y_ : List Int, y_ = (([a0_0] : List Int)) := ⟨_, rfl⟩
 replace H : ((trivetref04_num.f k ([] : List Int) y255).bind fun t258 => (if a0_0 = 1 then ((trivetref04_num.f k t258 (([a0_1, a0_2, (l0_3.length : Int)] : List Int))).bind fun t264 => (trivetref04_EntryForm.l0 k t264 0 a0_0 a0_1 a0_2 l0_3)) else (some t258))) = some r := by first | (rw [hy255]; with_reducible exact H) | (have H2_ := (Option.bind_some _ _).symm.trans H; rw [hy255]; with_reducible exact H2_) | (have H2_ := (Option.bind_some _ _).symm.trans H; with_reducible exact H2_) | with_reducible exact H | (rw [hy255]; exact H) | exact H
 have Ny255 := Aside0.mk hy255
 clear hy255
 replace H := Option.bind_eq_some_iff.mp H
 obtain ⟨t258, A20, H⟩ := H
 replace H : (if a0_0 = 1 then ((trivetref04_num.f k t258 (([a0_1, a0_2, (l0_3.length : Int)] : List Int))).bind fun t264 => (trivetref04_EntryForm.l0 k t264 0 a0_0 a0_1 a0_2 l0_3)) else (some t258)) = some r := H
 have A2 := Aside0.mk A20
 clear A20
 by_cases c3 : a0_0 = 1
 ·rw [if_pos c3] at H
  have c3b0 : (a0_0 == 1) = true := beq_iff_eq.mpr c3
  have c3b1 : (a0_0 != 1) = false := bne_eq_false_iff_eq.mpr c3
  clear c3
  obtain ⟨y261, hy261⟩ : ∃ y_ : List Int, y_ = (([a0_1, a0_2, (l0_3.length : Int)] : List Int)) := ⟨_, rfl⟩
  replace H : ((trivetref04_num.f k t258 y261).bind fun t264 => (trivetref04_EntryForm.l0 k t264 0 a0_0 a0_1 a0_2 l0_3)) = some r := by first | (rw [hy261]; with_reducible exact H) | (have H2_ := (Option.bind_some _ _).symm.trans H; rw [hy261]; with_reducible exact H2_) | (have H2_ := (Option.bind_some _ _).symm.trans H; with_reducible exact H2_) | with_reducible exact H | (rw [hy261]; exact H) | exact H
  have Ny261 := Aside0.mk hy261
  clear hy261
  replace H := Option.bind_eq_some_iff.mp H
  obtain ⟨t264, A40, H⟩ := H
  replace H : (trivetref04_EntryForm.l0 k t264 0 a0_0 a0_1 a0_2 l0_3) = some r := H
  have A4 := Aside0.mk A40
  clear A40
  have H' := Aside0.mk H
  clear H
  go_enter Try.func32, Try.ntmps32
  go_wp2_with (first | ((with_reducible refine gate_dst (N := 1) rfl ?_); refine box_event ?hg (N := 1) ?hd (cs := #[.int .i64 a0_0, .int .i64 a0_1, .int .i64 a0_2, .slice A0_3 l0_3.length c0_3]) (t := 36) ?hr ?_; (case hd => rfl); (case hg => rfl); (case hr => first | (go_simp; done) | (go_simp; rfl)); intro gb254 hg w5 hbox hb; have n0_ := Aside0.mk (below_step (stB HB.out) hb); have n1_ := Aside0.mk (hbox); have n2_ := Aside0.mk ((by rw [hg]; exact (below_size (stB HB.out)) : w.heap.size ≤ gb254)); have n3_ := Aside0.mk ((by rw [hg]; exact (below_size (stB HB.out)) : w.heap.size ≤ gb254)); clear HB; have HB := n0_; have BK254 := n1_; have GW254 := n2_; have GE254 := n3_; clear n0_ n1_ n2_ n3_; clear hb hbox hg; obtain ⟨hcz6_0, hcz6_1, hcz6_2, hcz6_3⟩ := bc4 BK254.out; obtain ⟨hfz6_0, hfz6_1, hfz6_2, hfz6_3⟩ := bf4 BK254.out) | ((with_reducible refine gate_dst (N := 7) rfl ?_); refine Kd.R_lit (Kd.int .i64) _ 2 ?hg (N := 7) ?hd (xs := ([a0_0] : List Int)) (inner := [.int .i64 a0_0]) (ok := fun _ => True) (okp := fun _ => True) ?hr ?hp (fun _ hk => hk) trivial (Below.refl _ _) (Nat.le_refl _) (by simp) ?_; (case hd => rfl); (case hg => rfl); (case hr => first | (go_simp; done) | (go_simp; rfl)); (case hp => exact (Reps.one (show Kd.M (Kd.int .i64) _ _ _ a0_0 [.int .i64 a0_0] from rfl) (Reps.none _ _))); intro v256 w7 ho8 hb hg_ hnew_; clear hg_ hnew_; (first | rw [← Ny255.out] at ho8 | (simp only [Int.reduceToNat] at ho8; rw [← Ny255.out] at ho8)); have n0_ := Aside0.mk (Kd.R_lower ho8 (below_size (by repeat (first | (with_reducible first | exact HB.out | apply below_alloc | apply pw_below_drewN | apply below_drew1 | refine below_set ?_ GE254.out) | exact HB.out)))); have n1_ := Aside0.mk (blk_below (g := gb254) (o := .cells #[.int .i64 a0_0, .int .i64 a0_1, .int .i64 a0_2, .slice A0_3 l0_3.length c0_3] 36 (0, 0)) (stK BK254.out) hb); have n2_ := Aside0.mk (below_step (by repeat (first | (with_reducible first | exact HB.out | apply below_alloc | apply pw_below_drewN | apply below_drew1 | refine below_set ?_ GE254.out) | exact HB.out)) hb); clear BK254; clear HB; have HO257 := n0_; have BK254 := n1_; have HB := n2_; clear n0_ n1_ n2_; clear hb ho8; obtain ⟨Ao9, co9, eo9⟩ := Kd.R_slice HO257.out; subst eo9) | ((with_reducible refine gate_callee (f := 51) rfl ?_); refine goesL_ (some 8) rfl rfl Try.func51 (by kernel_rfl) rfl #[.slice none 0 0, .slice Ao9 y255.length co9] rfl (by (try simp only [List.map_toArray, List.map_cons, List.map_nil]); first | done | rfl | (simp only [List.length_drop, List.length_take]; rfl)) ?_; (refine (trivetref04_num.calls k _ _ ([] : List Int) _ _ y255 t258 _ ?side1 ?side2 ?side3 ?side4 A2.out).mono ?_); (case side1 => exact Kd.C_nil _ _); (case side2 => exact Nat.le_refl _); (case side3 => exact stC ((Kd.R_reads' HO257.out).2.2)); (case side4 => exact (Kd.R_reads' HO257.out).2.1); rintro e w10 ⟨v259, rfl, ho0, hb⟩; refine ⟨_, rfl, ?_⟩; have n0_ := Aside0.mk (Kd.R_below (stR HO257.out) hb); have n1_ := Aside0.mk (Kd.R_lower ho0 (below_size (by repeat (first | (with_reducible first | exact HB.out | apply below_alloc | apply pw_below_drewN | apply below_drew1 | refine below_set ?_ GE254.out) | exact HB.out)))); have n2_ := Aside0.mk (blk_below (g := gb254) (o := .cells #[.int .i64 a0_0, .int .i64 a0_1, .int .i64 a0_2, .slice A0_3 l0_3.length c0_3] 36 (0, 0)) (stK BK254.out) hb); have n3_ := Aside0.mk (below_step (by repeat (first | (with_reducible first | exact HB.out | apply below_alloc | apply pw_below_drewN | apply below_drew1 | refine below_set ?_ GE254.out) | exact HB.out)) hb); clear HO257; clear BK254; clear HB; have HO257 := n0_; have HO260 := n1_; have BK254 := n2_; have HB := n3_; clear n0_ n1_ n2_ n3_; (try clear hb); (try clear hb2); (try clear hk); (try clear hi); (try clear ho0); obtain ⟨hcz11_0, hcz11_1, hcz11_2, hcz11_3⟩ := bc4 BK254.out; obtain ⟨hfz11_0, hfz11_1, hfz11_2, hfz11_3⟩ := bf4 BK254.out) | ((with_reducible refine gate_dst (N := 21) rfl ?_); refine Kd.R_lit (Kd.int .i64) _ 2 ?hg (N := 21) ?hd (xs := ([a0_1, a0_2, (l0_3.length : Int)] : List Int)) (inner := [.int .i64 a0_1, .int .i64 a0_2, .int .i64 (l0_3.length : Int)]) (ok := fun _ => True) (okp := fun _ => True) ?hr ?hp (fun _ hk => hk) trivial (Below.refl _ _) (Nat.le_refl _) (by simp) ?_; (case hd => rfl); (case hg => rfl); (case hr => first | (go_simp; done) | (go_simp; rfl)); (case hp => exact (Reps.one (show Kd.M (Kd.int .i64) _ _ _ a0_1 [.int .i64 a0_1] from rfl) (Reps.one (show Kd.M (Kd.int .i64) _ _ _ a0_2 [.int .i64 a0_2] from rfl) (Reps.one (show Kd.M (Kd.int .i64) _ _ _ (l0_3.length : Int) [.int .i64 (l0_3.length : Int)] from rfl) (Reps.none _ _))))); intro v262 w12 ho13 hb hg_ hnew_; clear hg_ hnew_; (first | rw [← Ny261.out] at ho13 | (simp only [Int.reduceToNat] at ho13; rw [← Ny261.out] at ho13)); have n0_ := Aside0.mk (Kd.R_elder' (stR HO257.out) (Kd.R_base ho13) hb); have n1_ := Aside0.mk (Kd.R_below (stR HO260.out) hb); have n2_ := Aside0.mk (Kd.R_lower (Kd.R_new' ho13 (Kd.R_lt (stR HO257.out))) (below_size (by repeat (first | (with_reducible first | exact HB.out | apply below_alloc | apply pw_below_drewN | apply below_drew1 | refine below_set ?_ GE254.out) | exact HB.out)))); have n3_ := Aside0.mk (blk_below (g := gb254) (o := .cells #[.int .i64 a0_0, .int .i64 a0_1, .int .i64 a0_2, .slice A0_3 l0_3.length c0_3] 36 (0, 0)) (stK BK254.out) hb); have n4_ := Aside0.mk (below_step (by repeat (first | (with_reducible first | exact HB.out | apply below_alloc | apply pw_below_drewN | apply below_drew1 | refine below_set ?_ GE254.out) | exact HB.out)) hb); clear HO257; clear HO260; clear BK254; clear HB; have HO257 := n0_; have HO260 := n1_; have HO263 := n2_; have BK254 := n3_; have HB := n4_; clear n0_ n1_ n2_ n3_ n4_; clear hb ho13; obtain ⟨Ao14, co14, eo14⟩ := Kd.R_slice HO260.out; subst eo14; obtain ⟨Ao15, co15, eo15⟩ := Kd.R_slice HO263.out; subst eo15) | ((with_reducible refine gate_callee (f := 51) rfl ?_); refine goesL_ (some 22) rfl rfl Try.func51 (by kernel_rfl) rfl #[.slice Ao14 t258.length co14, .slice Ao15 y261.length co15] rfl (by (try simp only [List.map_toArray, List.map_cons, List.map_nil]); first | done | rfl | (simp only [List.length_drop, List.length_take]; rfl)) ?_; (with_reducible refine (trivetref04_num.calls k _ _ t258 _ _ y261 t264 _ ?side1 ?side2 ?side3 ?side4 A4.out).mono ?_); (case side1 => exact stC ((Kd.R_reads' HO260.out).2.2)); (case side2 => exact (Kd.R_reads' HO260.out).2.1); (case side3 => exact stC ((Kd.R_reads' HO263.out).2.2)); (case side4 => exact (Kd.R_reads' HO263.out).2.1); rintro e w16 ⟨v265, rfl, ho0, hb⟩; refine ⟨_, rfl, ?_⟩; have n0_ := Aside0.mk (Kd.R_below (stR HO257.out) hb); have n1_ := Aside0.mk (Kd.R_elder' (stR HO260.out) (Kd.R_base ho0) hb); have n2_ := Aside0.mk (Kd.R_below (stR HO263.out) hb); have n3_ := Aside0.mk (Kd.R_lower (Kd.R_new' ho0 (Kd.R_lt (stR HO260.out))) (below_size (by repeat (first | (with_reducible first | exact HB.out | apply below_alloc | apply pw_below_drewN | apply below_drew1 | refine below_set ?_ GE254.out) | exact HB.out)))); have n4_ := Aside0.mk (blk_below (g := gb254) (o := .cells #[.int .i64 a0_0, .int .i64 a0_1, .int .i64 a0_2, .slice A0_3 l0_3.length c0_3] 36 (0, 0)) (stK BK254.out) hb); have n5_ := Aside0.mk (below_step (by repeat (first | (with_reducible first | exact HB.out | apply below_alloc | apply pw_below_drewN | apply below_drew1 | refine below_set ?_ GE254.out) | exact HB.out)) hb); clear HO257; clear HO260; clear HO263; clear BK254; clear HB; have HO257 := n0_; have HO260 := n1_; have HO263 := n2_; have HO266 := n3_; have BK254 := n4_; have HB := n5_; clear n0_ n1_ n2_ n3_ n4_ n5_; (try clear hb); (try clear hb2); (try clear hk); (try clear hi); (try clear ho0)))
  go_loopg [3, 4] k (fun kq v3 v4 w' => ∃ (x3_1 : List Int) (x4_1 : Int), v4 = .int .i64 x4_1 ∧ Aside0 (trivetref04_EntryForm.l0 kq x3_1 x4_1 a0_0 a0_1 a0_2 l0_3 = some r) ∧ Aside0 (kq ≤ k) ∧ Aside0 (Kd.R (Kd.int .u8) 5 w' w.heap.size (fun _ => True) v3 x3_1) ∧ Aside0 (w'.heap[gb254]? = some (.cells #[.int .i64 a0_0, .int .i64 a0_1, .int .i64 a0_2, (.slice A0_3 l0_3.length c0_3)] 36 (0, 0))) ∧ Aside0 (Below w.heap.size w w'))
  case atStart => exact ⟨(t264), (0), (by first | rfl | (simp; done) | (simp [*]; done)), H', ⟨Nat.le_refl _⟩, ⟨by (with_reducible repeat (first|apply Kd.R_alloc | apply Kd.R_drewN | apply Kd.R_drew)); exact Kd.R_mono HO266.out (fun _ hk => trivial)⟩, ⟨stK BK254.out⟩, ⟨by repeat (first | (with_reducible first | exact HB.out | apply below_alloc | apply pw_below_drewN | apply below_drew1 | refine below_set ?_ GE254.out) | exact HB.out)⟩⟩
  case round =>
   clear H'
   try clear p2
   try clear c3
   try clear c3b0
   try clear c3b1
   try clear c5
   try clear hcz11_0
   try clear hcz11_1
   try clear hcz11_2
   try clear hcz11_3
   try clear hcz6_0
   try clear hcz6_1
   try clear hcz6_2
   try clear hcz6_3
   try clear hfz11_0
   try clear hfz11_1
   try clear hfz11_2
   try clear hfz11_3
   try clear hfz6_0
   try clear hfz6_1
   try clear hfz6_2
   try clear hfz6_3
   obtain ⟨x3_1, x4_1, rfl, HA, HK1, HO_3, BK254, HB⟩ := hrel
   cases gk with
   | zero => exact absurd HA.out (by simp [trivetref04_EntryForm.l0])
   | succ k1 =>
    have H := HA.out
    clear HA
    simp only [trivetref04_EntryForm.l0] at H
    by_cases c17 : x4_1 < (l0_3.length : Int)
    ·rw [if_pos c17] at H
     have c17b0 : decide (x4_1 < (l0_3.length : Int)) = true := decide_eq_true c17
     clear c17
     by_cases c18 : 0 ≤ x4_1
     ·rw [if_pos c18] at H
      have c18b0 : decide (0 ≤ x4_1) = true := decide_eq_true c18
      clear c18
      replace H := Option.bind_eq_some_iff.mp H
      obtain ⟨t268, A190, H⟩ := H
      replace H : (if x3_1.length + t268.length < 140737488355328 then (trivetref04_EntryForm.l0 k1 (x3_1 ++ t268) (wrap64 (x4_1 + 1)) a0_0 a0_1 a0_2 l0_3) else (none)) = some r := H
      have A19 := Aside0.mk A190
      clear A190
      by_cases c20 : x3_1.length + t268.length < 140737488355328
      ·rw [if_pos c20] at H
       have LMc20 := Aside0.mk c20
       clear c20
       obtain ⟨y271, hy271⟩ : ∃ y_ : List Int, y_ = (x3_1 ++ t268) := ⟨_, rfl⟩
       replace H : (trivetref04_EntryForm.l0 k1 y271 (wrap64 (x4_1 + 1)) a0_0 a0_1 a0_2 l0_3) = some r := by first | (rw [hy271]; with_reducible exact H) | (have H2_ := (Option.bind_some _ _).symm.trans H; rw [hy271]; with_reducible exact H2_) | (have H2_ := (Option.bind_some _ _).symm.trans H; with_reducible exact H2_) | with_reducible exact H | (rw [hy271]; exact H) | exact H
       have Ny271 := Aside0.mk hy271
       clear hy271
       have H' := Aside0.mk H
       clear H
       obtain ⟨hcz21_0, hcz21_1, hcz21_2, hcz21_3⟩ := bc4 BK254.out
       obtain ⟨hfz21_0, hfz21_1, hfz21_2, hfz21_3⟩ := bf4 BK254.out
       have p267 : 0 ≤ (x4_1 : Int) := of_decide_eq_true (by first | (with_reducible assumption) | assumption)
       have q267 : x4_1 < (l0_3.length : Int) := of_decide_eq_true (by first | (with_reducible assumption) | assumption)
       obtain ⟨ad267, A267_2, c267_2, A267_3, c267_3, A267_4, c267_4, A267_5, c267_5, e267, hx267_0, hx267_1, hx267_2, hx267_3, hx267_4, hx267_5, hl267_2, hi267_2, hl267_3, hi267_3, hl267_4, hi267_4, hl267_5, hi267_5⟩ := at_T32 HR0_3.out x4_1 p267 q267
       cases e267
       replace hx267_0 := cu HB.out hx267_0
       replace hx267_1 := cu HB.out hx267_1
       replace hx267_2 := cu HB.out hx267_2
       replace hx267_3 := cu HB.out hx267_3
       replace hx267_4 := cu HB.out hx267_4
       replace hx267_5 := cu HB.out hx267_5
       have HR267_2 := Aside0.mk hi267_2
       have HC267_2 := Aside0.mk hl267_2
       clear hi267_2 hl267_2
       have HR267_3 := Aside0.mk hi267_3
       have HC267_3 := Aside0.mk hl267_3
       clear hi267_3 hl267_3
       have HR267_4 := Aside0.mk hi267_4
       have HC267_4 := Aside0.mk hl267_4
       clear hi267_4 hl267_4
       have HR267_5 := Aside0.mk hi267_5
       have HC267_5 := Aside0.mk hl267_5
       clear hi267_5 hl267_5
       replace p267 := eq_true p267
       replace q267 := eq_true q267
       go_wp2_with (first | ((with_reducible refine gate_callee (f := 52) rfl ?_); refine goesL_ (some 36) rfl rfl Try.func52 (by kernel_rfl) rfl #[.agg #[.int .i64 ((rd_T32 l0_3 x4_1).f0), .int .i64 ((rd_T32 l0_3 x4_1).f1), .slice A267_2 ((rd_T32 l0_3 x4_1).f2).length c267_2, .slice A267_3 ((rd_T32 l0_3 x4_1).f3).length c267_3, .slice A267_4 ((rd_T32 l0_3 x4_1).f4).length c267_4, .slice A267_5 ((rd_T32 l0_3 x4_1).f5).length c267_5]] rfl (by (try simp only [List.map_toArray, List.map_cons, List.map_nil]); first | done | rfl | (simp only [List.length_drop, List.length_take]; rfl)) ?_; (with_reducible refine (trivetref04_TxnForm.calls k1 ((rd_T32 l0_3 x4_1).f0) ((rd_T32 l0_3 x4_1).f1) _ _ ((rd_T32 l0_3 x4_1).f2) _ _ ((rd_T32 l0_3 x4_1).f3) _ _ ((rd_T32 l0_3 x4_1).f4) _ _ ((rd_T32 l0_3 x4_1).f5) t268 _ ?side1 ?side2 ?side3 ?side4 ?side5 ?side6 ?side7 ?side8 A19.out).mono ?_); (case side1 => exact stC (Kd.C_below HR267_2.out HB.out)); (case side2 => exact HC267_2.out); (case side3 => exact stC (Kd.C_below HR267_3.out HB.out)); (case side4 => exact HC267_3.out); (case side5 => exact stC (Kd.C_below HR267_4.out HB.out)); (case side6 => exact HC267_4.out); (case side7 => exact stC (Kd.C_below HR267_5.out HB.out)); (case side8 => exact HC267_5.out); rintro e w22 ⟨v269, rfl, ho0, hb⟩; refine ⟨_, rfl, ?_⟩; have n0_ := Aside0.mk (Kd.R_elder' (stR HO_3.out) (Kd.R_base ho0) hb); have n1_ := Aside0.mk (Kd.R_lower (Kd.R_new' ho0 (Kd.R_lt (stR HO_3.out))) (below_size (by repeat (first | (with_reducible first | exact HB.out | apply below_alloc | apply pw_below_drewN | apply below_drew1 | refine below_set ?_ GE254.out) | exact HB.out)))); have n2_ := Aside0.mk (blk_below (g := gb254) (o := .cells #[.int .i64 a0_0, .int .i64 a0_1, .int .i64 a0_2, .slice (some ad267) l0_3.length c0_3] 36 (0, 0)) (stK BK254.out) hb); have n3_ := Aside0.mk (below_step (by repeat (first | (with_reducible first | exact HB.out | apply below_alloc | apply pw_below_drewN | apply below_drew1 | refine below_set ?_ GE254.out) | exact HB.out)) hb); clear HO_3; clear BK254; clear HB; have HO_3 := n0_; have HO270 := n1_; have BK254 := n2_; have HB := n3_; clear n0_ n1_ n2_ n3_; (try clear hb); (try clear hb2); (try clear hk); (try clear hi); (try clear ho0); obtain ⟨Ao24, co24, eo24⟩ := Kd.R_slice HO270.out; subst eo24) | ((with_reducible refine gate_builtin (b := .append) (xs := #[.tmp 30, .tmp 36]) rfl ?_); at_builtin; refine Kd.R_append_rows (Kd.int .u8) (w0 := w) w.heap.size rfl (.tmp 30) (.tmp 36) 28 5 (.int .u8 0) 1 rfl Try.underlying28 info5 rfl (by decide) (by omega) u3 x3_1 t268 _ _ _ (fun k_ => some k_ ≠ (.slice Ao24 t268.length co24 : Value).ownBlock) (fun _ => False) rfl rfl ?aO ?aR (fun _ _ h => h) (fun _ h => h.elim) ?aF ?aB ?aS ?aL ?_; (case aR => exact stC ((Kd.R_reads' HO270.out).2.2)); (case aB => exact (by repeat (first | (with_reducible first | exact HB.out | apply below_alloc | apply pw_below_drewN | apply below_drew1 | refine below_set ?_ GE254.out) | exact HB.out))); (case aF => exact (fun k_ hk => Kd.fresh' (Kd.R_lt (stR HO270.out)) k_ hk)); (case aO => exact (by (with_reducible repeat (first|apply Kd.R_alloc | apply Kd.R_drewN | apply Kd.R_drew)); exact Kd.R_mono HO_3.out (fun _ hk => hk.2))); (case aS => exact (below_size (by repeat (first | (with_reducible first | exact HB.out | apply below_alloc | apply pw_below_drewN | apply below_drew1 | refine below_set ?_ GE254.out) | exact HB.out)))); (case aL => have := LMc20.out; omega); intro v272 w23 ho hb hg hat; rw [← Ny271.out] at ho; have n0_ := Aside0.mk (blk_grown (g := gb254) (o := .cells #[.int .i64 a0_0, .int .i64 a0_1, .int .i64 a0_2, .slice (some ad267) l0_3.length c0_3] 36 (0, 0)) (stK BK254.out) hg (Kd.R_ne HO_3.out BK254.out (by decide))); have n1_ := Aside0.mk (Kd.R_after (ok := (fun _ => True)) (stR HO270.out) hg hat); have n2_ := Aside0.mk (hb); have n3_ := Aside0.mk (ho); clear BK254; clear HO270; clear HB; clear HO_3; have BK254 := n0_; have HO270 := n1_; have HB := n2_; have HO273 := n3_; clear n0_ n1_ n2_ n3_; clear ho hb hg hat))
       go_roundg k1
       case measure => have := HK1.out; omega
       case rel => exact ⟨(y271), (wrap64 (x4_1 + 1)), (by first | rfl | (simp; done) | (simp [*]; done)), H', ⟨by have := HK1.out; omega⟩, ⟨by (with_reducible repeat (first|apply Kd.R_alloc | apply Kd.R_drewN | apply Kd.R_drew)); exact Kd.R_mono HO273.out (fun _ hk => trivial)⟩, ⟨stK BK254.out⟩, ⟨by repeat (first | (with_reducible first | exact HB.out | apply below_alloc | apply pw_below_drewN | apply below_drew1 | refine below_set ?_ GE254.out) | exact HB.out)⟩⟩
      ·rw [if_neg c20] at H
       exact absurd H (by simp)
     ·rw [if_neg c18] at H
      exact absurd H (by simp)
    ·rw [if_neg c17] at H
     have c17b0 : decide (x4_1 < (l0_3.length : Int)) = false := decide_eq_false c17
     clear c17
     obtain rfl := Option.some.inj H
     obtain ⟨hcz25_0, hcz25_1, hcz25_2, hcz25_3⟩ := bc4 BK254.out
     obtain ⟨hfz25_0, hfz25_1, hfz25_2, hfz25_3⟩ := bf4 BK254.out
     go_wp2
     go_ret
     exact ⟨_, by first | rfl | (simp [errW_none, errW_some] <;> rfl) | (simp [*, errW_none, errW_some] <;> rfl), stR HO_3.out, by repeat (first | (with_reducible first | exact HB.out | apply below_alloc | apply pw_below_drewN | apply below_drew1 | refine below_set ?_ GE254.out) | exact HB.out)⟩
 ·rw [if_neg c3] at H
  have c3b0 : (a0_0 == 1) = false := beq_eq_false_iff_ne.mpr c3
  have c3b1 : (a0_0 != 1) = true := bne_iff_ne.mpr c3
  obtain rfl := Option.some.inj H
  go_enter Try.func32, Try.ntmps32
  go_wp2_with (first | ((with_reducible refine gate_dst (N := 1) rfl ?_); refine box_event ?hg (N := 1) ?hd (cs := #[.int .i64 a0_0, .int .i64 a0_1, .int .i64 a0_2, .slice A0_3 l0_3.length c0_3]) (t := 36) ?hr ?_; (case hd => rfl); (case hg => rfl); (case hr => first | (go_simp; done) | (go_simp; rfl)); intro gb254 hg w26 hbox hb; have n0_ := Aside0.mk (below_step (stB HB.out) hb); have n1_ := Aside0.mk (hbox); have n2_ := Aside0.mk ((by rw [hg]; exact (below_size (stB HB.out)) : w.heap.size ≤ gb254)); have n3_ := Aside0.mk ((by rw [hg]; exact (below_size (stB HB.out)) : w.heap.size ≤ gb254)); clear HB; have HB := n0_; have BK254 := n1_; have GW254 := n2_; have GE254 := n3_; clear n0_ n1_ n2_ n3_; clear hb hbox hg; obtain ⟨hcz27_0, hcz27_1, hcz27_2, hcz27_3⟩ := bc4 BK254.out; obtain ⟨hfz27_0, hfz27_1, hfz27_2, hfz27_3⟩ := bf4 BK254.out) | ((with_reducible refine gate_dst (N := 7) rfl ?_); refine Kd.R_lit (Kd.int .i64) _ 2 ?hg (N := 7) ?hd (xs := ([a0_0] : List Int)) (inner := [.int .i64 a0_0]) (ok := fun _ => True) (okp := fun _ => True) ?hr ?hp (fun _ hk => hk) trivial (Below.refl _ _) (Nat.le_refl _) (by simp) ?_; (case hd => rfl); (case hg => rfl); (case hr => first | (go_simp; done) | (go_simp; rfl)); (case hp => exact (Reps.one (show Kd.M (Kd.int .i64) _ _ _ a0_0 [.int .i64 a0_0] from rfl) (Reps.none _ _))); intro v256 w28 ho29 hb hg_ hnew_; clear hg_ hnew_; (first | rw [← Ny255.out] at ho29 | (simp only [Int.reduceToNat] at ho29; rw [← Ny255.out] at ho29)); have n0_ := Aside0.mk (Kd.R_lower ho29 (below_size (by repeat (first | (with_reducible first | exact HB.out | apply below_alloc | apply pw_below_drewN | apply below_drew1 | refine below_set ?_ GE254.out) | exact HB.out)))); have n1_ := Aside0.mk (blk_below (g := gb254) (o := .cells #[.int .i64 a0_0, .int .i64 a0_1, .int .i64 a0_2, .slice A0_3 l0_3.length c0_3] 36 (0, 0)) (stK BK254.out) hb); have n2_ := Aside0.mk (below_step (by repeat (first | (with_reducible first | exact HB.out | apply below_alloc | apply pw_below_drewN | apply below_drew1 | refine below_set ?_ GE254.out) | exact HB.out)) hb); clear BK254; clear HB; have HO257 := n0_; have BK254 := n1_; have HB := n2_; clear n0_ n1_ n2_; clear hb ho29; obtain ⟨Ao30, co30, eo30⟩ := Kd.R_slice HO257.out; subst eo30) | ((with_reducible refine gate_callee (f := 51) rfl ?_); refine goesL_ (some 8) rfl rfl Try.func51 (by kernel_rfl) rfl #[.slice none 0 0, .slice Ao30 y255.length co30] rfl (by (try simp only [List.map_toArray, List.map_cons, List.map_nil]); first | done | rfl | (simp only [List.length_drop, List.length_take]; rfl)) ?_; (refine (trivetref04_num.calls k _ _ ([] : List Int) _ _ y255 t258 _ ?side1 ?side2 ?side3 ?side4 A2.out).mono ?_); (case side1 => exact Kd.C_nil _ _); (case side2 => exact Nat.le_refl _); (case side3 => exact stC ((Kd.R_reads' HO257.out).2.2)); (case side4 => exact (Kd.R_reads' HO257.out).2.1); rintro e w31 ⟨v259, rfl, ho0, hb⟩; refine ⟨_, rfl, ?_⟩; have n0_ := Aside0.mk (Kd.R_below (stR HO257.out) hb); have n1_ := Aside0.mk (Kd.R_lower ho0 (below_size (by repeat (first | (with_reducible first | exact HB.out | apply below_alloc | apply pw_below_drewN | apply below_drew1 | refine below_set ?_ GE254.out) | exact HB.out)))); have n2_ := Aside0.mk (blk_below (g := gb254) (o := .cells #[.int .i64 a0_0, .int .i64 a0_1, .int .i64 a0_2, .slice A0_3 l0_3.length c0_3] 36 (0, 0)) (stK BK254.out) hb); have n3_ := Aside0.mk (below_step (by repeat (first | (with_reducible first | exact HB.out | apply below_alloc | apply pw_below_drewN | apply below_drew1 | refine below_set ?_ GE254.out) | exact HB.out)) hb); clear HO257; clear BK254; clear HB; have HO257 := n0_; have HO260 := n1_; have BK254 := n2_; have HB := n3_; clear n0_ n1_ n2_ n3_; (try clear hb); (try clear hb2); (try clear hk); (try clear hi); (try clear ho0); obtain ⟨hcz32_0, hcz32_1, hcz32_2, hcz32_3⟩ := bc4 BK254.out; obtain ⟨hfz32_0, hfz32_1, hfz32_2, hfz32_3⟩ := bf4 BK254.out))
  go_ret
  exact ⟨_, by first | rfl | (simp [errW_none, errW_some] <;> rfl) | (simp [*, errW_none, errW_some] <;> rfl), stR HO260.out, by repeat (first | (with_reducible first | exact HB.out | apply below_alloc | apply pw_below_drewN | apply below_drew1 | refine below_set ?_ GE254.out) | exact HB.out)⟩
def trivetref04_Entry.f (k : Nat) (a0_0 : Int) (a0_1 : Int) (a0_2 : Int) (l0_3 : List (S32)) : Option (List Int × Int) := (trivetref04_MayEntry.f k a0_0 a0_1 a0_2 l0_3).bind fun t275 => (if t275 = true then ((trivetref04_EntryForm.f k a0_0 a0_1 a0_2 l0_3).bind fun t276 => (if (t276.length : Int) > 1048576 then (some (([] : List Int), 3)) else (some (t276, 0)))) else (some (([] : List Int), 40)))
set_option maxHeartbeats 8000000 in
set_option maxRecDepth 100000 in
theorem trivetref04_Entry.calls (k : Nat) (a0_0 : Int) (a0_1 : Int) (a0_2 : Int) (A0_3 : Option Addr) (c0_3 : Nat) (l0_3 : List (S32)) (r1 : List Int) (r2 : Int) (w : World) (hr0_3 : Kd.C k32 w A0_3 l0_3.length l0_3) (hc0_3 : l0_3.length ≤ c0_3) (h : trivetref04_Entry.f k a0_0 a0_1 a0_2 l0_3 = some (r1, r2)) :
  Calls Try.prog 13 #[.agg #[.int .i64 a0_0, .int .i64 a0_1, .int .i64 a0_2, .slice A0_3 l0_3.length c0_3]] w fun e w' => ∃ v0_ : Value, e = .returned (.tuple #[v0_, .int .i64 r2]) ∧ Kd.R (Kd.int .u8) 5 w' w.heap.size (fun _ => True) v0_ r1 ∧ Below w.heap.size w w' := by
 have hu36 := Try.underlying36
 have HR0_3 := Aside0.mk hr0_3
 have HC0_3 := Aside0.mk hc0_3
 clear hr0_3 hc0_3
 have HB := Aside0.mk (Below.refl w.heap.size w)
 have H : ((trivetref04_MayEntry.f k a0_0 a0_1 a0_2 l0_3).bind fun t275 => (if t275 = true then ((trivetref04_EntryForm.f k a0_0 a0_1 a0_2 l0_3).bind fun t276 => (if (t276.length : Int) > 1048576 then (some (([] : List Int), 3)) else (some (t276, 0)))) else (some (([] : List Int), 40)))) = some (r1, r2) := h
 clear h
 replace H := Option.bind_eq_some_iff.mp H
 obtain ⟨t275, A20, H⟩ := H
 replace H : (if t275 = true then ((trivetref04_EntryForm.f k a0_0 a0_1 a0_2 l0_3).bind fun t276 => (if (t276.length : Int) > 1048576 then (some (([] : List Int), 3)) else (some (t276, 0)))) else (some (([] : List Int), 40))) = some (r1, r2) := H
 have A2 := Aside0.mk A20
 clear A20
 by_cases c3 : t275 = true
 ·subst c3
  have H1 : ((trivetref04_EntryForm.f k a0_0 a0_1 a0_2 l0_3).bind fun t276 => (if (t276.length : Int) > 1048576 then (some (([] : List Int), 3)) else (some (t276, 0)))) = some (r1, r2) := by rw [if_pos rfl] at H; exact H
  clear H
  have H := H1
  clear H1
  replace H := Option.bind_eq_some_iff.mp H
  obtain ⟨t276, A40, H⟩ := H
  replace H : (if (t276.length : Int) > 1048576 then (some (([] : List Int), 3)) else (some (t276, 0))) = some (r1, r2) := H
  have A4 := Aside0.mk A40
  clear A40
  by_cases c5 : (t276.length : Int) > 1048576
  ·rw [if_pos c5] at H
   have c5b0 : decide (1048576 < (t276.length : Int)) = true := decide_eq_true c5
   have c5b1 : decide (1048576 < t276.length) = true := decide_eq_true (by omega)
   clear c5
   simp only [Option.some.injEq, Prod.mk.injEq] at H
   obtain ⟨rfl, rfl⟩ := H
   go_enter Try.func13, Try.ntmps13
   go_wp2_with (first | ((with_reducible refine gate_dst (N := 1) rfl ?_); refine box_event ?hg (N := 1) ?hd (cs := #[.int .i64 a0_0, .int .i64 a0_1, .int .i64 a0_2, .slice A0_3 l0_3.length c0_3]) (t := 36) ?hr ?_; (case hd => rfl); (case hg => rfl); (case hr => first | (go_simp; done) | (go_simp; rfl)); intro gb274 hg w6 hbox hb; have n0_ := Aside0.mk (below_step (stB HB.out) hb); have n1_ := Aside0.mk (hbox); have n2_ := Aside0.mk ((by rw [hg]; exact (below_size (stB HB.out)) : w.heap.size ≤ gb274)); have n3_ := Aside0.mk ((by rw [hg]; exact (below_size (stB HB.out)) : w.heap.size ≤ gb274)); clear HB; have HB := n0_; have BK274 := n1_; have GW274 := n2_; have GE274 := n3_; clear n0_ n1_ n2_ n3_; clear hb hbox hg; obtain ⟨hcz7_0, hcz7_1, hcz7_2, hcz7_3⟩ := bc4 BK274.out; obtain ⟨hfz7_0, hfz7_1, hfz7_2, hfz7_3⟩ := bf4 BK274.out) | ((with_reducible refine gate_callee (f := 31) rfl ?_); refine goesL_ (some 6) rfl rfl Try.func31 (by kernel_rfl) rfl #[.agg #[.int .i64 a0_0, .int .i64 a0_1, .int .i64 a0_2, .slice A0_3 l0_3.length c0_3]] rfl (by (try simp only [List.map_toArray, List.map_cons, List.map_nil]); first | done | rfl | (simp only [List.length_drop, List.length_take]; rfl)) ?_; (with_reducible refine (trivetref04_MayEntry.calls k a0_0 a0_1 a0_2 _ _ l0_3 true _ ?side1 ?side2 A2.out).mono ?_); (case side1 => exact stC (Kd.C_below HR0_3.out HB.out)); (case side2 => exact HC0_3.out); rintro e w8 ⟨rfl, hb⟩; refine ⟨_, rfl, ?_⟩; have n0_ := Aside0.mk (blk_below (g := gb274) (o := .cells #[.int .i64 a0_0, .int .i64 a0_1, .int .i64 a0_2, .slice A0_3 l0_3.length c0_3] 36 (0, 0)) (stK BK274.out) hb); have n1_ := Aside0.mk (below_step (by repeat (first | (with_reducible first | exact HB.out | apply below_alloc | apply pw_below_drewN | apply below_drew1 | refine below_set ?_ GE274.out) | exact HB.out)) hb); clear BK274; clear HB; have BK274 := n0_; have HB := n1_; clear n0_ n1_; (try clear hb); (try clear hb2); (try clear hk); (try clear hi); obtain ⟨hcz9_0, hcz9_1, hcz9_2, hcz9_3⟩ := bc4 BK274.out; obtain ⟨hfz9_0, hfz9_1, hfz9_2, hfz9_3⟩ := bf4 BK274.out) | ((with_reducible refine gate_callee (f := 32) rfl ?_); refine goesL_ (some 9) rfl rfl Try.func32 (by kernel_rfl) rfl #[.agg #[.int .i64 a0_0, .int .i64 a0_1, .int .i64 a0_2, .slice A0_3 l0_3.length c0_3]] rfl (by (try simp only [List.map_toArray, List.map_cons, List.map_nil]); first | done | rfl | (simp only [List.length_drop, List.length_take]; rfl)) ?_; (with_reducible refine (trivetref04_EntryForm.calls k a0_0 a0_1 a0_2 _ _ l0_3 t276 _ ?side1 ?side2 A4.out).mono ?_); (case side1 => exact stC (Kd.C_below HR0_3.out HB.out)); (case side2 => exact HC0_3.out); rintro e w10 ⟨v277, rfl, ho0, hb⟩; refine ⟨_, rfl, ?_⟩; have n0_ := Aside0.mk (Kd.R_lower ho0 (below_size (by repeat (first | (with_reducible first | exact HB.out | apply below_alloc | apply pw_below_drewN | apply below_drew1 | refine below_set ?_ GE274.out) | exact HB.out)))); have n1_ := Aside0.mk (blk_below (g := gb274) (o := .cells #[.int .i64 a0_0, .int .i64 a0_1, .int .i64 a0_2, .slice A0_3 l0_3.length c0_3] 36 (0, 0)) (stK BK274.out) hb); have n2_ := Aside0.mk (below_step (by repeat (first | (with_reducible first | exact HB.out | apply below_alloc | apply pw_below_drewN | apply below_drew1 | refine below_set ?_ GE274.out) | exact HB.out)) hb); clear BK274; clear HB; have HO278 := n0_; have BK274 := n1_; have HB := n2_; clear n0_ n1_ n2_; (try clear hb); (try clear hb2); (try clear hk); (try clear hi); (try clear ho0); obtain ⟨Ao11, co11, eo11⟩ := Kd.R_slice HO278.out; subst eo11))
   go_ret2
   exact ⟨_, by first | rfl | (simp [errW_none, errW_some] <;> rfl) | (simp [*, errW_none, errW_some] <;> rfl), by first | exact Kd.R_nil _ _ _ _ _ | exact Kd.N_nil _ _ _ _ _ | exact Kd.V_nil _ _ _ _ _ | exact Kd.Q_nil _ _ _ _ _ | exact Kd.S_nil _ _ _ _ _, by repeat (first | (with_reducible first | exact HB.out | apply below_alloc | apply pw_below_drewN | apply below_drew1 | refine below_set ?_ GE274.out) | exact HB.out)⟩
  ·rw [if_neg c5] at H
   have c5b0 : decide (1048576 < (t276.length : Int)) = false := decide_eq_false c5
   have c5b1 : decide (1048576 < t276.length) = false := decide_eq_false (by omega)
   clear c5
   simp only [Option.some.injEq, Prod.mk.injEq] at H
   obtain ⟨rfl, rfl⟩ := H
   go_enter Try.func13, Try.ntmps13
   go_wp2_with (first | ((with_reducible refine gate_dst (N := 1) rfl ?_); refine box_event ?hg (N := 1) ?hd (cs := #[.int .i64 a0_0, .int .i64 a0_1, .int .i64 a0_2, .slice A0_3 l0_3.length c0_3]) (t := 36) ?hr ?_; (case hd => rfl); (case hg => rfl); (case hr => first | (go_simp; done) | (go_simp; rfl)); intro gb274 hg w12 hbox hb; have n0_ := Aside0.mk (below_step (stB HB.out) hb); have n1_ := Aside0.mk (hbox); have n2_ := Aside0.mk ((by rw [hg]; exact (below_size (stB HB.out)) : w.heap.size ≤ gb274)); have n3_ := Aside0.mk ((by rw [hg]; exact (below_size (stB HB.out)) : w.heap.size ≤ gb274)); clear HB; have HB := n0_; have BK274 := n1_; have GW274 := n2_; have GE274 := n3_; clear n0_ n1_ n2_ n3_; clear hb hbox hg; obtain ⟨hcz13_0, hcz13_1, hcz13_2, hcz13_3⟩ := bc4 BK274.out; obtain ⟨hfz13_0, hfz13_1, hfz13_2, hfz13_3⟩ := bf4 BK274.out) | ((with_reducible refine gate_callee (f := 31) rfl ?_); refine goesL_ (some 6) rfl rfl Try.func31 (by kernel_rfl) rfl #[.agg #[.int .i64 a0_0, .int .i64 a0_1, .int .i64 a0_2, .slice A0_3 l0_3.length c0_3]] rfl (by (try simp only [List.map_toArray, List.map_cons, List.map_nil]); first | done | rfl | (simp only [List.length_drop, List.length_take]; rfl)) ?_; (with_reducible refine (trivetref04_MayEntry.calls k a0_0 a0_1 a0_2 _ _ l0_3 true _ ?side1 ?side2 A2.out).mono ?_); (case side1 => exact stC (Kd.C_below HR0_3.out HB.out)); (case side2 => exact HC0_3.out); rintro e w14 ⟨rfl, hb⟩; refine ⟨_, rfl, ?_⟩; have n0_ := Aside0.mk (blk_below (g := gb274) (o := .cells #[.int .i64 a0_0, .int .i64 a0_1, .int .i64 a0_2, .slice A0_3 l0_3.length c0_3] 36 (0, 0)) (stK BK274.out) hb); have n1_ := Aside0.mk (below_step (by repeat (first | (with_reducible first | exact HB.out | apply below_alloc | apply pw_below_drewN | apply below_drew1 | refine below_set ?_ GE274.out) | exact HB.out)) hb); clear BK274; clear HB; have BK274 := n0_; have HB := n1_; clear n0_ n1_; (try clear hb); (try clear hb2); (try clear hk); (try clear hi); obtain ⟨hcz15_0, hcz15_1, hcz15_2, hcz15_3⟩ := bc4 BK274.out; obtain ⟨hfz15_0, hfz15_1, hfz15_2, hfz15_3⟩ := bf4 BK274.out) | ((with_reducible refine gate_callee (f := 32) rfl ?_); refine goesL_ (some 9) rfl rfl Try.func32 (by kernel_rfl) rfl #[.agg #[.int .i64 a0_0, .int .i64 a0_1, .int .i64 a0_2, .slice A0_3 l0_3.length c0_3]] rfl (by (try simp only [List.map_toArray, List.map_cons, List.map_nil]); first | done | rfl | (simp only [List.length_drop, List.length_take]; rfl)) ?_; (with_reducible refine (trivetref04_EntryForm.calls k a0_0 a0_1 a0_2 _ _ l0_3 t276 _ ?side1 ?side2 A4.out).mono ?_); (case side1 => exact stC (Kd.C_below HR0_3.out HB.out)); (case side2 => exact HC0_3.out); rintro e w16 ⟨v277, rfl, ho0, hb⟩; refine ⟨_, rfl, ?_⟩; have n0_ := Aside0.mk (Kd.R_lower ho0 (below_size (by repeat (first | (with_reducible first | exact HB.out | apply below_alloc | apply pw_below_drewN | apply below_drew1 | refine below_set ?_ GE274.out) | exact HB.out)))); have n1_ := Aside0.mk (blk_below (g := gb274) (o := .cells #[.int .i64 a0_0, .int .i64 a0_1, .int .i64 a0_2, .slice A0_3 l0_3.length c0_3] 36 (0, 0)) (stK BK274.out) hb); have n2_ := Aside0.mk (below_step (by repeat (first | (with_reducible first | exact HB.out | apply below_alloc | apply pw_below_drewN | apply below_drew1 | refine below_set ?_ GE274.out) | exact HB.out)) hb); clear BK274; clear HB; have HO278 := n0_; have BK274 := n1_; have HB := n2_; clear n0_ n1_ n2_; (try clear hb); (try clear hb2); (try clear hk); (try clear hi); (try clear ho0); obtain ⟨Ao17, co17, eo17⟩ := Kd.R_slice HO278.out; subst eo17))
   go_ret2
   exact ⟨_, by first | rfl | (simp [errW_none, errW_some] <;> rfl) | (simp [*, errW_none, errW_some] <;> rfl), stR HO278.out, by repeat (first | (with_reducible first | exact HB.out | apply below_alloc | apply pw_below_drewN | apply below_drew1 | refine below_set ?_ GE274.out) | exact HB.out)⟩
 ·replace c3 := Bool.eq_false_iff.mpr c3
  subst c3
  have H1 : (some (([] : List Int), 40)) = some (r1, r2) := by rw [if_neg (show ¬ (false = true) by decide)] at H; exact H
  clear H
  have H := H1
  clear H1
  simp only [Option.some.injEq, Prod.mk.injEq] at H
  obtain ⟨rfl, rfl⟩ := H
  go_enter Try.func13, Try.ntmps13
  go_wp2_with (first | ((with_reducible refine gate_dst (N := 1) rfl ?_); refine box_event ?hg (N := 1) ?hd (cs := #[.int .i64 a0_0, .int .i64 a0_1, .int .i64 a0_2, .slice A0_3 l0_3.length c0_3]) (t := 36) ?hr ?_; (case hd => rfl); (case hg => rfl); (case hr => first | (go_simp; done) | (go_simp; rfl)); intro gb274 hg w18 hbox hb; have n0_ := Aside0.mk (below_step (stB HB.out) hb); have n1_ := Aside0.mk (hbox); have n2_ := Aside0.mk ((by rw [hg]; exact (below_size (stB HB.out)) : w.heap.size ≤ gb274)); have n3_ := Aside0.mk ((by rw [hg]; exact (below_size (stB HB.out)) : w.heap.size ≤ gb274)); clear HB; have HB := n0_; have BK274 := n1_; have GW274 := n2_; have GE274 := n3_; clear n0_ n1_ n2_ n3_; clear hb hbox hg; obtain ⟨hcz19_0, hcz19_1, hcz19_2, hcz19_3⟩ := bc4 BK274.out; obtain ⟨hfz19_0, hfz19_1, hfz19_2, hfz19_3⟩ := bf4 BK274.out) | ((with_reducible refine gate_callee (f := 31) rfl ?_); refine goesL_ (some 6) rfl rfl Try.func31 (by kernel_rfl) rfl #[.agg #[.int .i64 a0_0, .int .i64 a0_1, .int .i64 a0_2, .slice A0_3 l0_3.length c0_3]] rfl (by (try simp only [List.map_toArray, List.map_cons, List.map_nil]); first | done | rfl | (simp only [List.length_drop, List.length_take]; rfl)) ?_; (with_reducible refine (trivetref04_MayEntry.calls k a0_0 a0_1 a0_2 _ _ l0_3 false _ ?side1 ?side2 A2.out).mono ?_); (case side1 => exact stC (Kd.C_below HR0_3.out HB.out)); (case side2 => exact HC0_3.out); rintro e w20 ⟨rfl, hb⟩; refine ⟨_, rfl, ?_⟩; have n0_ := Aside0.mk (blk_below (g := gb274) (o := .cells #[.int .i64 a0_0, .int .i64 a0_1, .int .i64 a0_2, .slice A0_3 l0_3.length c0_3] 36 (0, 0)) (stK BK274.out) hb); have n1_ := Aside0.mk (below_step (by repeat (first | (with_reducible first | exact HB.out | apply below_alloc | apply pw_below_drewN | apply below_drew1 | refine below_set ?_ GE274.out) | exact HB.out)) hb); clear BK274; clear HB; have BK274 := n0_; have HB := n1_; clear n0_ n1_; (try clear hb); (try clear hb2); (try clear hk); (try clear hi)))
  go_ret2
  exact ⟨_, by first | rfl | (simp [errW_none, errW_some] <;> rfl) | (simp [*, errW_none, errW_some] <;> rfl), by first | exact Kd.R_nil _ _ _ _ _ | exact Kd.N_nil _ _ _ _ _ | exact Kd.V_nil _ _ _ _ _ | exact Kd.Q_nil _ _ _ _ _ | exact Kd.S_nil _ _ _ _ _, by repeat (first | (with_reducible first | exact HB.out | apply below_alloc | apply pw_below_drewN | apply below_drew1 | refine below_set ?_ GE274.out) | exact HB.out)⟩
end Go.Proofs.Ytgmlpmdfkaadhaa.G
end

section
/- The reference's Entry; slices.EqualFunc of transactions. -/
attribute [local irreducible] Go.wpStill
namespace Go.Proofs.Ytgmlpmdfkaadhaa.M
open Go.RowKit Go.Proofs.YtgmlpmdfkaadhaaW.PrintWords Go.Proofs.YtgmlpmdfkaadhaaW.PrintLast Go.Proofs.YtgmlpmdfkaadhaaW.PrintMore Go.Proofs.Ytgmlpmdfkaadhaa.G
theorem rdTx_eq {l : List TxD} {i : Nat} {x : TxD} (h : l[i]? = some x) : G.rd_T32 l (i : Int) = x := by unfold G.rd_T32; rw [Int.toNat_natCast, List.getD_eq_getElem?_getD, h]; rfl
theorem entform_l (x y z : Int) : ∀ (k : Nat) (acc : List Int) (a : List TxD) (i : Nat), a.length + 110 < i + k → i ≤ a.length → (∀ t ∈ a, okT t = true ∧ mayT t = true) → acc.length + 1300 * (a.length - i) < 140737488355000 → a.length ≤ 1000000 → G.trivetref04_EntryForm.l0 k acc (i : Int) x y z a = some (acc ++ (a.drop i).flatMap txB)
 | 0, acc, a, i, hk, hi, _, _, _ => by omega
 | k + 1, acc, a, i, hk, hi, ho, hs, hm => by
  simp only [G.trivetref04_EntryForm.l0]
  by_cases hlt : i < a.length
  ·obtain ⟨t, hx⟩ : ∃ t, a[i]? = some t := ⟨_, List.getElem?_eq_getElem hlt⟩
   have d1 := drop_cons hx
   have hw : wrap64 ((i : Int) + 1) = ((i + 1 : Nat) : Int) := by unfold wrap64; omega
   obtain ⟨h1, h2⟩ := ho t (List.mem_of_getElem? hx)
   have hl := txB_len h1 h2
   rw [if_pos (by omega : (i : Int) < (a.length : Int)), if_pos (by omega : (0 : Int) ≤ (i : Int)), rdTx_eq hx, txform_f k t h1 h2 (by omega), Option.bind_some, if_pos (by omega), hw]
   rw [entform_l x y z k _ a (i + 1) (by omega) (by omega) ho (by rw [List.length_append]; omega) hm, d1, List.flatMap_cons, List.append_assoc]
  ·rw [if_neg (by omega), List.drop_of_length_le (by omega)]
   simp
theorem numsB3 (a b c : Int) : numsB [a, b, c] = numsB [a, b] ++ numB c := by simp [numsB]
theorem entform_f (k : Nat) (e f n : Int) (l : List TxD) (ho : okE e f n l = true) (hm : mayE e f n l = true) (hk : 200 ≤ k) : G.trivetref04_EntryForm.f k e f n l = some (entB e f n l) := by
 obtain ⟨o1, o2, o3⟩ := okE_parts ho
 unfold G.trivetref04_EntryForm.f entB
 have e1 := (numB_len o1).2
 rw [rnum_f k [] [e] (okI1 o1) (by simp) (by simp; omega), Option.bind_some, numsB1, List.nil_append]
 by_cases h0 : e = 0
 ·rw [if_neg (by omega), if_pos h0, h0]
 ·obtain ⟨h1, h2, h3⟩ := mayE_one hm h0
  rw [if_pos h1, if_neg h0]
  have hn : isI64 (l.length : Int) := nat_i64 _ (by omega)
  have e3 := (numB_len hn).2
  have e2 := numsB2_len o2
  have o4 : okI [f, n, (l.length : Int)] = true := by
   unfold okI at o2 ⊢
   simp only [List.all_cons, List.all_nil, Bool.and_true, Bool.and_eq_true, decide_eq_true_eq] at o2 ⊢
   exact ⟨o2.1, o2.2, hn⟩
  rw [rnum_f k (numB e) [f, n, (l.length : Int)] o4 (by simp only [List.length_cons, List.length_nil]; omega) (by simp; omega), Option.bind_some, numsB3]
  have := entform_l e f n k (numB e ++ (numsB [f, n] ++ numB l.length)) l 0 (by omega) (by omega) (fun t ht => ⟨List.all_eq_true.1 o3 t ht, List.all_eq_true.1 h3 t ht⟩) (by simp only [List.length_append]; omega) (by omega)
  rw [show ((0 : Nat) : Int) = 0 from rfl] at this
  rw [this, List.drop_zero]
  simp only [List.append_assoc]
theorem refEntry_is {w : World} (x : EntD) {E : Option Addr} {ce : Nat} (hr : Kd.C G.k32 w E x.f3.length x.f3) (hc : x.f3.length ≤ ce) (ho : okE x.f0 x.f1 x.f2 x.f3 = true) :
  Calls Try.prog 13 #[.agg #[.int .i64 x.f0, .int .i64 x.f1, .int .i64 x.f2, .slice E x.f3.length ce]] w fun e w' => BytesP w (entF x.f0 x.f1 x.f2 x.f3).1 (entF x.f0 x.f1 x.f2 x.f3).2 e w' := by
 obtain ⟨M, hM⟩ := bound_T x.f3
 refine G.trivetref04_Entry.calls (M + x.f3.length + 203) x.f0 x.f1 x.f2 E ce x.f3 _ _ w hr hc ?_
 unfold G.trivetref04_Entry.f entF
 rw [mayE_r _ x.f0 x.f1 x.f2 x.f3 (fun t ht => by have := hM t ht; omega) (by omega) hr.2.1 (fun t ht => ?_), Option.bind_some]
 ·cases hm : mayE x.f0 x.f1 x.f2 x.f3 with
  | false => rw [if_neg (by simp), if_neg (by simp)]
  | true =>
   rw [if_pos rfl, if_pos rfl, entform_f _ _ _ _ _ ho hm (by omega), Option.bind_some]
   by_cases h : 1048576 < (entB x.f0 x.f1 x.f2 x.f3).length
   ·rw [if_pos (by omega), if_pos h]
   ·rw [if_neg (by omega), if_neg h]
 ·obtain ⟨i, hi⟩ := List.getElem?_of_mem ht
  obtain ⟨ad, A2, c2, A3, c3, A4, c4, A5, c5, _, _, hX⟩ := tx_get hr hi
  exact hX.ls
theorem eqTs_get {l l' : List TxD} (hl : l.length = l'.length) : (eqTs l l' = true ↔ ∀ (j : Nat) (a b : TxD), l[j]? = some a → l'[j]? = some b → eqTx a b = true) := by
 induction l generalizing l' with
 | nil =>
  cases l' with
  | nil => simp [eqTs]
  | cons b l' => simp at hl
 | cons a l ih =>
  cases l' with
  | nil => simp at hl
  | cons b l' =>
   unfold eqTs
   rw [Bool.and_eq_true, ih (by simpa using hl)]
   constructor
   ·rintro ⟨h1, h2⟩ j x y hx hy
    cases j with
    | zero =>
     simp at hx hy
     subst hx; subst hy
     exact h1
    | succ j => exact h2 j x y (by simpa using hx) (by simpa using hy)
   ·intro h
    exact ⟨h 0 a b rfl rfl, fun j x y hx hy => h (j + 1) x y (by simpa using hx) (by simpa using hy)⟩
theorem eqTs_lenQ : ∀ {l l' : List TxD}, l.length ≠ l'.length → eqTs l l' = false
 | [], [], h => absurd rfl h
 | [], _ :: _, _ => rfl
 | _ :: _, [], _ => rfl
 | a :: l, b :: l', h => by
  unfold eqTs
  rw [eqTs_lenQ (l := l) (l' := l') (fun e => h (by simp [e]))]
  simp
set_option maxHeartbeats 2000000 in
theorem eqFunc_is {w : World} {A A' : Option Addr} {c c' : Nat} {l l' : List TxD} (ha : Kd.C G.k32 w A l.length l) (hb : Kd.C G.k32 w A' l'.length l') :
  Calls Try.prog 14 #[.slice A l.length c, .slice A' l'.length c', .func (.func 15) #[] #[]] w fun e w' => e = .returned (.bool (eqTs l l')) ∧ Below w.heap.size w w' := by
 have hlm : l.length ≤ 9223372036854775807 := ha.2.1
 have HA := Lib.hid ha; have HB := Lib.hid hb
 clear ha hb
 by_cases hl : l.length = l'.length
 ·have q0 : ((l.length : Int) != (l'.length : Int)) = false := by rw [hl]; simp
  have HL := Lib.hid hl
  clear hl
  go_enter Try.func14, Try.ntmps14
  go_wp2_with fail
  go_loopw [17] (fun i wr => ∃ k : Nat, i = .int .i64 (k : Int) ∧ k ≤ l.length ∧ Aside0 (Below w.heap.size w wr ∧ ∀ (j : Nat) (a b : TxD), j < k → l[j]? = some a → l'[j]? = some b → eqTx a b = true)) (fun i _ => l.length - (intOf i).toNat)
  case atStart => exact ⟨0, rfl, Nat.zero_le _, ⟨Below.refl _ _, fun j _ _ h => absurd h (Nat.not_lt_zero j)⟩⟩
  case round =>
   obtain ⟨k, rfl, hk, HR⟩ := hrel
   by_cases hlt : k < l.length
   ·obtain ⟨x, hx⟩ : ∃ x, l[k]? = some x := ⟨_, List.getElem?_eq_getElem hlt⟩
    obtain ⟨y, hy⟩ : ∃ y, l'[k]? = some y := ⟨_, List.getElem?_eq_getElem (by have := HL.out; omega)⟩
    obtain ⟨ad, A2, c2, A3, c3, A4, c4, A5, c5, hEad, ⟨x0, x1, x2, x3, x4, x5⟩, hX⟩ := tx_get (Kd.C_below HA.out HR.out.1) hx
    obtain ⟨bd, B2, d2, B3, d3, B4, d4, B5, d5, hEbd, ⟨y0, y1, y2, y3, y4, y5⟩, hY⟩ := tx_get (Kd.C_below HB.out HR.out.1) hy
    have HA' := Lib.hid HA.out; have HB' := Lib.hid HB.out
    subst hEad
    subst hEbd
    have HX := Lib.hid hX; have HY := Lib.hid hY; have HGX := Lib.hid hx; have HGY := Lib.hid hy
    have hlt2 : k < l'.length := by have := HL.out; omega
    have HLT := Lib.hid hlt
    have HB2 := Lib.hid (((Below.refl wr.heap.size wr).alloc (Nat.le_refl _) (.cells #[.int .i64 x.f0, .int .i64 x.f1, .slice A2 x.f2.length c2, .slice A3 x.f3.length c3, .slice A4 x.f4.length c4, .slice A5 x.f5.length c5] 32)).alloc (by simp) (.cells #[.int .i64 y.f0, .int .i64 y.f1, .slice B2 y.f2.length d2, .slice B3 y.f3.length d3, .slice B4 y.f4.length d4, .slice B5 y.f5.length d5] 32))
    have zx : (ad.add (k * 6)).block < wr.heap.size := World.block_lt_of_cell? _ _ x0
    have zy : (bd.add (k * 6)).block < wr.heap.size := World.block_lt_of_cell? _ _ y0
    clear hx hy hX hY HA HB
    go_wp2_with fail
    refine (refSame_is x y (HX.out.below HB2.out) (HY.out.below HB2.out)).mono ?_
    rintro e w2 ⟨rfl, hb⟩
    have HB3 := Lib.hid (HR.out.1.trans ((HB2.out.trans (hb.mono HB2.out.size)).mono HR.out.1.size))
    clear hb
    cases hq : eqTx x y with
    | false =>
     have HQ := Lib.hid (show eqTs l l' = false by
      cases h : eqTs l l' with
      | false => rfl
      | true => rw [(eqTs_get HL.out).1 h k x y HGX.out HGY.out] at hq; cases hq)
     clear hq
     go_wp2_with fail
     go_ret
     exact ⟨by rw [HQ.out]; rfl, HB3.out⟩
    | true =>
     have HQ := Lib.hid hq
     clear hq
     go_wp2_with fail
     go_roundw
     case rel =>
      refine ⟨k + 1, by go_num, HLT.out, ⟨HB3.out, fun j a b hj h1 h2 => ?_⟩⟩
      rcases Nat.lt_or_ge j k with h | h
      ·exact HR.out.2 j a b h h1 h2
      ·obtain rfl : j = k := by omega
       rw [HGX.out] at h1
       rw [HGY.out] at h2
       injection h1 with h1
       injection h2 with h2
       subst h1; subst h2
       exact HQ.out
     case measure => have := HLT.out; simp [intOf]; omega
   ·have HQ := Lib.hid (show eqTs l l' = true from (eqTs_get HL.out).2 (fun j a b h1 h2 => HR.out.2 j a b (by have := (List.getElem?_eq_some_iff.1 h1).1; omega) h1 h2))
    obtain rfl : k = l.length := by omega
    clear hlt
    go_wp2_with fail
    go_ret
    exact ⟨by rw [HQ.out]; rfl, HR.out.1⟩
 ·have q0 : ((l.length : Int) != (l'.length : Int)) = true := by rw [bne_iff_ne]; omega
  have HQ := Lib.hid (eqTs_lenQ hl)
  clear hl
  go_enter Try.func14, Try.ntmps14
  go_wp2_with fail
  go_ret
  exact ⟨by rw [HQ.out]; rfl, Below.refl _ _⟩
theorem eqTs_refl : ∀ l : List TxD, eqTs l l = true
 | [] => rfl
 | a :: l => by unfold eqTs; rw [eqTs_refl l]; unfold eqTx; simp [eqS_refl]
end Go.Proofs.Ytgmlpmdfkaadhaa.M
end

section
/- the reference's CloneTxn (printed by genclref04.py). -/
attribute [local irreducible] Go.wpStill
namespace Go.Proofs.Ytgmlpmdfkaadhaa.M
open Go.RowKit Go.Proofs.YtgmlpmdfkaadhaaW.PrintWords Go.Proofs.YtgmlpmdfkaadhaaW.PrintLast Go.Proofs.YtgmlpmdfkaadhaaW.PrintMore Go.Proofs.Ytgmlpmdfkaadhaa.G
set_option maxHeartbeats 4000000 in
theorem refCloneTx_is {w : World} (t : TxD) {A2 A3 A4 A5 : Option Addr} {c2 c3 c4 c5 : Nat} (hC : TxC w t A2 c2 A3 c3 A4 c4 A5 c5) (hs : SmT t) :
  Calls Try.prog 35 #[txV t A2 c2 A3 c3 A4 c4 A5 c5] w fun e w' => TxNew w t e w' := by
 have HC := Lib.hid hC; have HS := Lib.hid hs
 have HT0 := Lib.hid (Bx.start w 32 #[.int .i64 0, .int .i64 0, .slice none 0 0, .slice none 0 0, .slice none 0 0, .slice none 0 0] #[.int .i64 t.f0, .int .i64 t.f1, .slice A2 t.f2.length c2, .slice A3 t.f3.length c3, .slice A4 t.f4.length c4, .slice A5 t.f5.length c5])
 clear hC hs
 go_enter Try.func35, Try.ntmps35
 go_upto_region 1 with fail
 obtain ⟨g, hg⟩ : ∃ g, w.heap.size = g := ⟨_, rfl⟩
 obtain ⟨w0, hw⟩ : ∃ w0, (w.alloc (.cells #[.int .i64 t.f0, .int .i64 t.f1, .slice A2 t.f2.length c2, .slice A3 t.f3.length c3, .slice A4 t.f4.length c4, .slice A5 t.f5.length c5] 32)).alloc (.cells #[.int .i64 0, .int .i64 0, .slice none 0 0, .slice none 0 0, .slice none 0 0, .slice none 0 0] 32) = w0 := ⟨_, rfl⟩
 have HG := Lib.hid hg
 rw [hw] at HT0 ⊢
 rw [hg] at HT0 ⊢
 clear hw hg
 have d2 : w0.cell? ⟨g, 2, none⟩ = some (.slice A2 t.f2.length c2) := (blk_cell HT0.out.y 2).trans rfl
 go_upto_region 2 with ((with_reducible refine gate_builtin (b := .append) (xs := #[.const (.slice none 0 0), .tmp 4]) rfl ?_); at_builtin; refine Kd.R_append_rows (Kd.int .u8) (w0 := w0) w0.heap.size rfl (.const (.slice none 0 0)) (.tmp 4) 28 5 (.int .u8 0) 1 rfl Try.underlying28 infoU8 rfl (by decide) (by omega) _ ([] : List Int) t.f2 _ _ _ (fun _ => True) (fun _ => False) rfl rfl (Kd.R_nil _ _ _ _ _) (Kd.C_below HC.out.g2 HT0.out.d) (fun _ _ h => h) (fun _ h => h.elim) (fun _ _ => trivial) (Below.refl _ _) (Nat.le_refl _) (by have := HS.out.1; simp; omega) ?_; intro w_ w1 hv hb _ _; rw [List.nil_append] at hv; obtain ⟨N2, N2c, rfl⟩ := Kd.R_slice hv; have HT1 := Lib.hid (HT0.out.callR hb hv); clear hv hb d2; have d2 : w1.cell? ⟨g, 2, none⟩ = some (.slice A2 t.f2.length c2) := (blk_cell HT1.out.y 2).trans rfl; have z2 : w1.frozen? ⟨g, 2, none⟩ = false := blk_frozen HT1.out.y 2)
 have HT2 := Lib.hid (HT1.out.set 2 (.slice N2 t.f2.length N2c) #[.int .i64 t.f0, .int .i64 t.f1, .slice N2 t.f2.length N2c, .slice A3 t.f3.length c3, .slice A4 t.f4.length c4, .slice A5 t.f5.length c5] (blk_put HT1.out.y 2 _ rfl))
 have HSZ2 := Lib.hid (show w1.heap.size ≤ (w1.setCell ⟨g, 2, none⟩ (.slice N2 t.f2.length N2c)).heap.size by rw [World.size_setCell]; exact Nat.le_refl _)
 obtain ⟨w2, hw⟩ : ∃ W, w1.setCell ⟨g, 2, none⟩ (.slice N2 t.f2.length N2c) = W := ⟨_, rfl⟩
 rw [hw] at HT2 HSZ2 ⊢
 clear hw HT0 HT1 d2 z2
 have d3 : w2.cell? ⟨g, 3, none⟩ = some (.slice A3 t.f3.length c3) := (blk_cell HT2.out.y 3).trans rfl
 go_upto_region 3 with ((with_reducible refine gate_builtin (b := .append) (xs := #[.const (.slice none 0 0), .tmp 8]) rfl ?_); at_builtin; refine Kd.R_append_rows (Kd.int .i64) (w0 := w2) w2.heap.size rfl (.const (.slice none 0 0)) (.tmp 8) 29 2 (.int .i64 0) 8 rfl Try.underlying29 infoI64 rfl (by decide) (by omega) _ ([] : List Int) t.f3 _ _ _ (fun _ => True) (fun _ => False) rfl rfl (Kd.R_nil _ _ _ _ _) (Kd.C_below HC.out.g3 HT2.out.d) (fun _ _ h => h) (fun _ h => h.elim) (fun _ _ => trivial) (Below.refl _ _) (Nat.le_refl _) (by have := HS.out.2.1; simp; omega) ?_; intro w_ w3 hv hb _ _; rw [List.nil_append] at hv; obtain ⟨N3, N3c, rfl⟩ := Kd.R_slice hv; have HT3 := Lib.hid (HT2.out.callR hb hv); clear hv hb d3; have d3 : w3.cell? ⟨g, 3, none⟩ = some (.slice A3 t.f3.length c3) := (blk_cell HT3.out.y 3).trans rfl; have z3 : w3.frozen? ⟨g, 3, none⟩ = false := blk_frozen HT3.out.y 3)
 have HT4 := Lib.hid (HT3.out.set 3 (.slice N3 t.f3.length N3c) #[.int .i64 t.f0, .int .i64 t.f1, .slice N2 t.f2.length N2c, .slice N3 t.f3.length N3c, .slice A4 t.f4.length c4, .slice A5 t.f5.length c5] (blk_put HT3.out.y 3 _ rfl))
 have HSZ4 := Lib.hid (show w3.heap.size ≤ (w3.setCell ⟨g, 3, none⟩ (.slice N3 t.f3.length N3c)).heap.size by rw [World.size_setCell]; exact Nat.le_refl _)
 obtain ⟨w4, hw⟩ : ∃ W, w3.setCell ⟨g, 3, none⟩ (.slice N3 t.f3.length N3c) = W := ⟨_, rfl⟩
 rw [hw] at HT4 HSZ4 ⊢
 clear hw HT2 HT3 d3 z3
 have d4 : w4.cell? ⟨g, 4, none⟩ = some (.slice A4 t.f4.length c4) := (blk_cell HT4.out.y 4).trans rfl
 go_upto_region 4 with ((with_reducible refine gate_builtin (b := .append) (xs := #[.const (.slice none 0 0), .tmp 12]) rfl ?_); at_builtin; refine Kd.R_append_rows G.k54 (w0 := w4) w4.heap.size rfl (.const (.slice none 0 0)) (.tmp 12) 30 54 (.agg #[.int .i32 0, .int .i64 0]) 16 rfl Try.underlying30 infoKey rfl (by decide) (by omega) _ ([] : List (G.S54)) t.f4 _ _ _ (fun _ => True) (fun _ => False) rfl rfl (Kd.R_nil _ _ _ _ _) (Kd.C_below HC.out.g4 HT4.out.d) (fun x cs h => (by rw [G.k54_open h]; exact G.k54_mkM _ _ _ _)) (fun _ h => h.elim) (fun _ _ => trivial) (Below.refl _ _) (Nat.le_refl _) (by have := HS.out.2.2.1; simp; omega) ?_; intro w_ w5 hv hb _ _; rw [List.nil_append] at hv; obtain ⟨N4, N4c, rfl⟩ := Kd.R_slice hv; have HT5 := Lib.hid (HT4.out.callR hb hv); clear hv hb d4; have d4 : w5.cell? ⟨g, 4, none⟩ = some (.slice A4 t.f4.length c4) := (blk_cell HT5.out.y 4).trans rfl; have z4 : w5.frozen? ⟨g, 4, none⟩ = false := blk_frozen HT5.out.y 4)
 have HT6 := Lib.hid (HT5.out.set 4 (.slice N4 t.f4.length N4c) #[.int .i64 t.f0, .int .i64 t.f1, .slice N2 t.f2.length N2c, .slice N3 t.f3.length N3c, .slice N4 t.f4.length N4c, .slice A5 t.f5.length c5] (blk_put HT5.out.y 4 _ rfl))
 have HSZ6 := Lib.hid (show w5.heap.size ≤ (w5.setCell ⟨g, 4, none⟩ (.slice N4 t.f4.length N4c)).heap.size by rw [World.size_setCell]; exact Nat.le_refl _)
 obtain ⟨w6, hw⟩ : ∃ W, w5.setCell ⟨g, 4, none⟩ (.slice N4 t.f4.length N4c) = W := ⟨_, rfl⟩
 rw [hw] at HT6 HSZ6 ⊢
 clear hw HT4 HT5 d4 z4
 have d5 : w6.cell? ⟨g, 5, none⟩ = some (.slice A5 t.f5.length c5) := (blk_cell HT6.out.y 5).trans rfl
 go_upto_region 5 with ((with_reducible refine gate_builtin (b := .append) (xs := #[.const (.slice none 0 0), .tmp 16]) rfl ?_); at_builtin; refine Kd.R_append_rows G.k54 (w0 := w6) w6.heap.size rfl (.const (.slice none 0 0)) (.tmp 16) 30 54 (.agg #[.int .i32 0, .int .i64 0]) 16 rfl Try.underlying30 infoKey rfl (by decide) (by omega) _ ([] : List (G.S54)) t.f5 _ _ _ (fun _ => True) (fun _ => False) rfl rfl (Kd.R_nil _ _ _ _ _) (Kd.C_below HC.out.g5 HT6.out.d) (fun x cs h => (by rw [G.k54_open h]; exact G.k54_mkM _ _ _ _)) (fun _ h => h.elim) (fun _ _ => trivial) (Below.refl _ _) (Nat.le_refl _) (by have := HS.out.2.2.2; simp; omega) ?_; intro w_ w7 hv hb _ _; rw [List.nil_append] at hv; obtain ⟨N5, N5c, rfl⟩ := Kd.R_slice hv; have HT7 := Lib.hid (HT6.out.callR hb hv); clear hv hb d5; have d5 : w7.cell? ⟨g, 5, none⟩ = some (.slice A5 t.f5.length c5) := (blk_cell HT7.out.y 5).trans rfl; have z5 : w7.frozen? ⟨g, 5, none⟩ = false := blk_frozen HT7.out.y 5)
 have HT8 := Lib.hid (HT7.out.set 5 (.slice N5 t.f5.length N5c) #[.int .i64 t.f0, .int .i64 t.f1, .slice N2 t.f2.length N2c, .slice N3 t.f3.length N3c, .slice N4 t.f4.length N4c, .slice N5 t.f5.length N5c] (blk_put HT7.out.y 5 _ rfl))
 have HSZ8 := Lib.hid (show w7.heap.size ≤ (w7.setCell ⟨g, 5, none⟩ (.slice N5 t.f5.length N5c)).heap.size by rw [World.size_setCell]; exact Nat.le_refl _)
 obtain ⟨w8, hw⟩ : ∃ W, w7.setCell ⟨g, 5, none⟩ (.slice N5 t.f5.length N5c) = W := ⟨_, rfl⟩
 rw [hw] at HT8 HSZ8 ⊢
 clear hw HT6 HT7 d5 z5
 have d0 : w8.cell? ⟨g, 0, none⟩ = some (.int .i64 t.f0) := (blk_cell HT8.out.y 0).trans rfl
 have z0 : w8.frozen? ⟨g, 0, none⟩ = false := blk_frozen HT8.out.y 0
 have d1 : w8.cell? ⟨g, 1, none⟩ = some (.int .i64 t.f1) := (blk_cell HT8.out.y 1).trans rfl
 have z1 : w8.frozen? ⟨g, 1, none⟩ = false := blk_frozen HT8.out.y 1
 have d2 : w8.cell? ⟨g, 2, none⟩ = some (.slice N2 t.f2.length N2c) := (blk_cell HT8.out.y 2).trans rfl
 have z2 : w8.frozen? ⟨g, 2, none⟩ = false := blk_frozen HT8.out.y 2
 have d3 : w8.cell? ⟨g, 3, none⟩ = some (.slice N3 t.f3.length N3c) := (blk_cell HT8.out.y 3).trans rfl
 have z3 : w8.frozen? ⟨g, 3, none⟩ = false := blk_frozen HT8.out.y 3
 have d4 : w8.cell? ⟨g, 4, none⟩ = some (.slice N4 t.f4.length N4c) := (blk_cell HT8.out.y 4).trans rfl
 have z4 : w8.frozen? ⟨g, 4, none⟩ = false := blk_frozen HT8.out.y 4
 have d5 : w8.cell? ⟨g, 5, none⟩ = some (.slice N5 t.f5.length N5c) := (blk_cell HT8.out.y 5).trans rfl
 have z5 : w8.frozen? ⟨g, 5, none⟩ = false := blk_frozen HT8.out.y 5
 have e0 : w8.cell? ⟨g + 1, 0, none⟩ = some (.int .i64 0) := (blk_cell HT8.out.g0 0).trans rfl
 have y0 : w8.frozen? ⟨g + 1, 0, none⟩ = false := blk_frozen HT8.out.g0 0
 have e1 : w8.cell? ⟨g + 1, 1, none⟩ = some (.int .i64 0) := (blk_cell HT8.out.g0 1).trans rfl
 have y1 : w8.frozen? ⟨g + 1, 1, none⟩ = false := blk_frozen HT8.out.g0 1
 have e2 : w8.cell? ⟨g + 1, 2, none⟩ = some (.slice none 0 0) := (blk_cell HT8.out.g0 2).trans rfl
 have y2 : w8.frozen? ⟨g + 1, 2, none⟩ = false := blk_frozen HT8.out.g0 2
 have e3 : w8.cell? ⟨g + 1, 3, none⟩ = some (.slice none 0 0) := (blk_cell HT8.out.g0 3).trans rfl
 have y3 : w8.frozen? ⟨g + 1, 3, none⟩ = false := blk_frozen HT8.out.g0 3
 have e4 : w8.cell? ⟨g + 1, 4, none⟩ = some (.slice none 0 0) := (blk_cell HT8.out.g0 4).trans rfl
 have y4 : w8.frozen? ⟨g + 1, 4, none⟩ = false := blk_frozen HT8.out.g0 4
 have e5 : w8.cell? ⟨g + 1, 5, none⟩ = some (.slice none 0 0) := (blk_cell HT8.out.g0 5).trans rfl
 have y5 : w8.frozen? ⟨g + 1, 5, none⟩ = false := blk_frozen HT8.out.g0 5
 go_wp2_with fail
 have HEB := Lib.hid (blk_put (cs := #[.int .i64 t.f0, .int .i64 t.f1, .slice N2 t.f2.length N2c, .slice N3 t.f3.length N3c, .slice N4 t.f4.length N4c, .slice none 0 0]) (blk_put (cs := #[.int .i64 t.f0, .int .i64 t.f1, .slice N2 t.f2.length N2c, .slice N3 t.f3.length N3c, .slice none 0 0, .slice none 0 0]) (blk_put (cs := #[.int .i64 t.f0, .int .i64 t.f1, .slice N2 t.f2.length N2c, .slice none 0 0, .slice none 0 0, .slice none 0 0]) (blk_put (cs := #[.int .i64 t.f0, .int .i64 t.f1, .slice none 0 0, .slice none 0 0, .slice none 0 0, .slice none 0 0]) (blk_put (cs := #[.int .i64 t.f0, .int .i64 0, .slice none 0 0, .slice none 0 0, .slice none 0 0, .slice none 0 0]) (blk_put (cs := #[.int .i64 0, .int .i64 0, .slice none 0 0, .slice none 0 0, .slice none 0 0, .slice none 0 0]) HT8.out.g0 0 (.int .i64 t.f0) rfl) 1 (.int .i64 t.f1) rfl) 2 (.slice N2 t.f2.length N2c) rfl) 3 (.slice N3 t.f3.length N3c) rfl) 4 (.slice N4 t.f4.length N4c) rfl) 5 (.slice N5 t.f5.length N5c) rfl)
 have HD := Lib.hid (HT8.out.done (((((((KeepS.refl (fun k => k = g + 1 ∨ k = g) w8).set (p := ⟨g + 1, 0, none⟩) (.inl (.inl rfl)) (.int .i64 t.f0)).set (p := ⟨g + 1, 1, none⟩) (.inl (.inl rfl)) (.int .i64 t.f1)).set (p := ⟨g + 1, 2, none⟩) (.inl (.inl rfl)) (.slice N2 t.f2.length N2c)).set (p := ⟨g + 1, 3, none⟩) (.inl (.inl rfl)) (.slice N3 t.f3.length N3c)).set (p := ⟨g + 1, 4, none⟩) (.inl (.inl rfl)) (.slice N4 t.f4.length N4c)).set (p := ⟨g + 1, 5, none⟩) (.inl (.inl rfl)) (.slice N5 t.f5.length N5c)))
 obtain ⟨W, hW⟩ : ∃ W, ((((((w8.setCell ⟨g + 1, 0, none⟩ (.int .i64 t.f0)).setCell ⟨g + 1, 1, none⟩ (.int .i64 t.f1)).setCell ⟨g + 1, 2, none⟩ (.slice N2 t.f2.length N2c)).setCell ⟨g + 1, 3, none⟩ (.slice N3 t.f3.length N3c)).setCell ⟨g + 1, 4, none⟩ (.slice N4 t.f4.length N4c)).setCell ⟨g + 1, 5, none⟩ (.slice N5 t.f5.length N5c)) = W := ⟨_, rfl⟩
 rw [hW] at HEB HD ⊢
 clear hW
 refine bodyPost_ret (results_cell_row rfl _ _ (g + 1) 32 #[.int .i64 t.f0, .int .i64 t.f1, .slice N2 t.f2.length N2c, .slice N3 t.f3.length N3c, .slice N4 t.f4.length N4c, .slice N5 t.f5.length N5c] (0, 0) _ rfl HEB.out Try.underlying32 rfl (by kernel_rfl)) rfl ?_
 obtain ⟨⟨⟨⟨⟨-, p2⟩, p3⟩, p4⟩, p5⟩, dd⟩ := HD.out
 exact ⟨_, _, _, _, rfl, Kd.R_mono p2 (fun _ _ => trivial), Kd.R_mono p3 (fun _ _ => trivial), Iv.apart p4 p5 (.inl HSZ6.out), Iv.apart p5 p4 (.inr HSZ6.out), dd⟩
end Go.Proofs.Ytgmlpmdfkaadhaa.M
end

section
/- the reference's CloneEntry (printed by genclref04.py). -/
attribute [local irreducible] Go.wpStill
namespace Go.Proofs.Ytgmlpmdfkaadhaa.M
open Go.RowKit Go.Proofs.YtgmlpmdfkaadhaaW.PrintWords Go.Proofs.YtgmlpmdfkaadhaaW.PrintLast Go.Proofs.YtgmlpmdfkaadhaaW.PrintMore Go.Proofs.Ytgmlpmdfkaadhaa.G
set_option maxHeartbeats 4000000 in
theorem refCloneEn_is {w : World} (x : EntD) {A : Option Addr} {c : Nat} (hc : x.f3.length ≤ c) (hC : Kd.C G.k32 w A x.f3.length x.f3) (hs : SmE x) :
  Calls Try.prog 17 #[.agg #[.int .i64 x.f0, .int .i64 x.f1, .int .i64 x.f2, .slice A x.f3.length c]] w fun e w' => EnNew w x e w' := by
 have HC := Lib.hid hC; have HS := Lib.hid hs; have hlm : x.f3.length ≤ 1048576 := hs.1
 have HT0 := Lib.hid (Bx.start w 36 #[.int .i64 0, .int .i64 0, .int .i64 0, .slice none 0 0] #[.int .i64 x.f0, .int .i64 x.f1, .int .i64 x.f2, .slice A x.f3.length c])
 clear hC hs
 go_enter Try.func17, Try.ntmps17
 go_upto_region 1 with fail
 obtain ⟨g, hg⟩ : ∃ g, w.heap.size = g := ⟨_, rfl⟩
 obtain ⟨w0, hw⟩ : ∃ w0, (w.alloc (.cells #[.int .i64 x.f0, .int .i64 x.f1, .int .i64 x.f2, .slice A x.f3.length c] 36)).alloc (.cells #[.int .i64 0, .int .i64 0, .int .i64 0, .slice none 0 0] 36) = w0 := ⟨_, rfl⟩
 have HG := Lib.hid hg
 rw [hw] at HT0 ⊢
 rw [hg] at HT0 ⊢
 clear hw hg
 have d3 : w0.cell? ⟨g, 3, none⟩ = some (.slice A x.f3.length c) := (blk_cell HT0.out.y 3).trans rfl
 have z3 : w0.frozen? ⟨g, 3, none⟩ = false := blk_frozen HT0.out.y 3
 go_wp2_with fail
 go_loopw [3, 4] (fun v i wr => CeI x A c w w0 g v i wr) (fun _ i _ => x.f3.length - (intOf i).toNat)
 case atStart => exact ⟨0, rfl, Nat.zero_le _, Kd.S_nil _ _ _ _ _, HT0.out, Below.refl _ _⟩
 case round =>
  obtain ⟨k, rfl, hk, hS, hT, hB⟩ := hrel
  obtain ⟨Av, cv, rfl⟩ := Kd.S_slice hS
  have HSS := Lib.hid hS; have HT := Lib.hid hT; have HB := Lib.hid hB
  clear hS hT hB d3 z3
  have d3 : wr.cell? ⟨g, 3, none⟩ = some (.slice A x.f3.length c) := (blk_cell HT.out.y 3).trans rfl
  have hlt1 : (x.f3.take k).length = k := by rw [List.length_take]; omega
  rw [hlt1]
  rw [hlt1] at HSS
  clear hlt1
  by_cases hlt : k < x.f3.length
  ·obtain ⟨t, ht⟩ : ∃ t, x.f3[k]? = some t := ⟨_, List.getElem?_eq_getElem hlt⟩
   obtain ⟨ad, A2, c2, A3, c3, A4, c4, A5, c5, rfl, ⟨e0, e1, e2, e3, e4, e5⟩, hX⟩ := tx_get (Kd.C_below HC.out HT.out.d) ht
   have HB1 := Lib.hid (Below.refl wr.heap.size wr)
   have HTM := Lib.hid (show SmT t from HS.out.2 t (List.mem_of_getElem? ht))
   have HN := Lib.hid (refCloneTx_is t (hX.below HB1.out) HTM.out)
   have HTK := Lib.hid (show x.f3.take (k + 1) = x.f3.take k ++ [t] by rw [List.take_add_one, ht]; rfl)
   clear hX ht
   go_wp2_with fail
   refine HN.out.mono ?_
   rintro e w3 ⟨v2, v3, v4, v5, rfl, r2, r3, r4, r5, hb⟩
   obtain ⟨N2, n2, rfl⟩ := Kd.R_slice r2
   obtain ⟨N3, n3, rfl⟩ := Kd.R_slice r3
   obtain ⟨N4, n4, rfl⟩ := Kd.R_slice r4
   obtain ⟨N5, n5, rfl⟩ := Kd.R_slice r5
   have HBB := Lib.hid (HB1.out.trans (hb.mono HB1.out.size))
   have HZW := Lib.hid (show w0.heap.size ≤ wr.heap.size from HB.out.size)
   have HZ1 := Lib.hid (Nat.le_trans HZW.out HB1.out.size)
   have R2 := Lib.hid (show Kd.R (Kd.int .u8) 5 w3 w0.heap.size (fun k => wr.heap.size ≤ k) _ t.f2 from Kd.R_mono (Kd.R_lower (Kd.R_bound r2) HZ1.out) (fun k hk => Nat.le_trans HB1.out.size hk.2.1))
   have R3 := Lib.hid (show Kd.R (Kd.int .i64) 2 w3 w0.heap.size (fun k => wr.heap.size ≤ k) _ t.f3 from Kd.R_mono (Kd.R_lower (Kd.R_bound r3) HZ1.out) (fun k hk => Nat.le_trans HB1.out.size hk.2.1))
   have R4 := Lib.hid (show Kd.R G.k54 54 w3 w0.heap.size (fun k => wr.heap.size ≤ k) _ t.f4 from Kd.R_mono (Kd.R_lower (Kd.R_bound r4) HZ1.out) (fun k hk => Nat.le_trans HB1.out.size hk.2.1))
   have R5 := Lib.hid (show Kd.R G.k54 54 w3 w0.heap.size (fun k => wr.heap.size ≤ k) _ t.f5 from Kd.R_mono (Kd.R_lower (Kd.R_bound r5) HZ1.out) (fun k hk => Nat.le_trans HB1.out.size hk.2.1))
   have HS3 := Lib.hid (show Kd.S G.k32 32 w3 w0.heap.size (fun k => True ∧ ¬ wr.heap.size ≤ k) (.slice Av k cv) (x.f3.take k) from Kd.S_mono (Kd.S_step (Kd.S_bound HSS.out) (fun k hk2 hlt => HBB.out.block k hlt)) (fun k hk => ⟨trivial, by have := hk.2.2.1; omega⟩))
   have HOWN := Lib.hid (Kd.S_lt HSS.out)
   have HZ3 := Lib.hid (Nat.le_trans HZW.out HBB.out.size)
   have hkl : (x.f3.take k).length ≤ 1048576 := by rw [List.length_take]; omega
   clear r2 r3 r4 r5 hb e0 e1 e2 e3 e4 e5
   go_wp2_with ((with_reducible refine gate_builtin (b := .append) (xs := #[.tmp 12, .tmp 19]) rfl ?_); at_builtin; refine Kd.S_append G.k32 (w0 := w3) w0.heap.size rfl (.tmp 12) (.tmp 19) 22 32 (.agg #[.int .i64 0, .int .i64 0, .slice none 0 0, .slice none 0 0, .slice none 0 0, .slice none 0 0]) 112 rfl Try.underlying22 G.info32 rfl (by decide) (by omega) _ (x.f3.take k) t [.int .i64 t.f0, .int .i64 t.f1, .slice N2 t.f2.length n2, .slice N3 t.f3.length n3, .slice N4 t.f4.length n4, .slice N5 t.f5.length n5] (fun _ => True) (fun k => wr.heap.size ≤ k) rfl rfl (G.k32_mkM _ _ _ t R2.out R3.out R4.out R5.out) (fun k hk => ⟨trivial, fun e => by have := HOWN.out k e.symm; omega⟩) (fun _ _ => trivial) HS3.out (Below.refl _ _) HZ3.out (by omega) ?_; intro v1 w5 ho hb5 hg5 hat; rw [← HTK.out] at ho; have HS5 := Lib.hid ho; have HB5 := Lib.hid ((HB.out.trans (HBB.out.mono HB.out.size)).trans hb5); have HT5 := Lib.hid ((HT.out.below HBB.out).grow HT0.out.hz HT0.out.hz2 HT0.out.d.size hb5); clear ho hb5 hg5 hat)
   go_roundw
   case rel => exact ⟨k + 1, by go_num, hlt, HS5.out, HT5.out, HB5.out⟩
   case measure => simp [intOf]; omega
  ·have hkl : k = x.f3.length := by omega
   subst hkl
   rw [List.take_length] at HSS
   have q3 : wr.cell? ⟨g, 3, none⟩ = some (.slice A x.f3.length c) := (blk_cell HT.out.y 3).trans rfl
   have z3 : wr.frozen? ⟨g, 3, none⟩ = false := blk_frozen HT.out.y 3
   have d0 : wr.cell? ⟨g, 0, none⟩ = some (.int .i64 x.f0) := (blk_cell HT.out.y 0).trans rfl
   have d1 : wr.cell? ⟨g, 1, none⟩ = some (.int .i64 x.f1) := (blk_cell HT.out.y 1).trans rfl
   have d2 : wr.cell? ⟨g, 2, none⟩ = some (.int .i64 x.f2) := (blk_cell HT.out.y 2).trans rfl
   have e0 : wr.cell? ⟨g + 1, 0, none⟩ = some (.int .i64 0) := (blk_cell HT.out.g0 0).trans rfl
   have y0 : wr.frozen? ⟨g + 1, 0, none⟩ = false := blk_frozen HT.out.g0 0
   have e1 : wr.cell? ⟨g + 1, 1, none⟩ = some (.int .i64 0) := (blk_cell HT.out.g0 1).trans rfl
   have y1 : wr.frozen? ⟨g + 1, 1, none⟩ = false := blk_frozen HT.out.g0 1
   have e2 : wr.cell? ⟨g + 1, 2, none⟩ = some (.int .i64 0) := (blk_cell HT.out.g0 2).trans rfl
   have y2 : wr.frozen? ⟨g + 1, 2, none⟩ = false := blk_frozen HT.out.g0 2
   have e3 : wr.cell? ⟨g + 1, 3, none⟩ = some (.slice none 0 0) := (blk_cell HT.out.g0 3).trans rfl
   have y3 : wr.frozen? ⟨g + 1, 3, none⟩ = false := blk_frozen HT.out.g0 3
   go_wp2_with fail
   have HT1 := Lib.hid ((HT.out.and ((Sv.of HSS.out HT0.out.d.size).held (fun k hk => by have h1 := HT0.out.hz; have h2 := HT0.out.hz2; rcases hk with rfl | rfl <;> omega))).set 3 (.slice Av x.f3.length cv) #[.int .i64 x.f0, .int .i64 x.f1, .int .i64 x.f2, .slice Av x.f3.length cv] (blk_put HT.out.y 3 _ rfl))
   obtain ⟨w1, hw⟩ : ∃ w1, wr.setCell ⟨g, 3, none⟩ (.slice Av x.f3.length cv) = w1 := ⟨_, rfl⟩
   rw [hw] at HT1 ⊢
   clear hw
   have HEB := Lib.hid (blk_put (cs := #[.int .i64 x.f0, .int .i64 x.f1, .int .i64 x.f2, .slice none 0 0]) (blk_put (cs := #[.int .i64 x.f0, .int .i64 x.f1, .int .i64 0, .slice none 0 0]) (blk_put (cs := #[.int .i64 x.f0, .int .i64 0, .int .i64 0, .slice none 0 0]) (blk_put (cs := #[.int .i64 0, .int .i64 0, .int .i64 0, .slice none 0 0]) HT1.out.g0 0 (.int .i64 x.f0) rfl) 1 (.int .i64 x.f1) rfl) 2 (.int .i64 x.f2) rfl) 3 (.slice Av x.f3.length cv) rfl)
   have HD := Lib.hid (HT1.out.done (((((KeepS.refl (fun k => k = g + 1 ∨ k = g) w1).set (p := ⟨g + 1, 0, none⟩) (.inl (.inl rfl)) (.int .i64 x.f0)).set (p := ⟨g + 1, 1, none⟩) (.inl (.inl rfl)) (.int .i64 x.f1)).set (p := ⟨g + 1, 2, none⟩) (.inl (.inl rfl)) (.int .i64 x.f2)).set (p := ⟨g + 1, 3, none⟩) (.inl (.inl rfl)) (.slice Av x.f3.length cv)))
   obtain ⟨W, hW⟩ : ∃ W, ((((w1.setCell ⟨g + 1, 0, none⟩ (.int .i64 x.f0)).setCell ⟨g + 1, 1, none⟩ (.int .i64 x.f1)).setCell ⟨g + 1, 2, none⟩ (.int .i64 x.f2)).setCell ⟨g + 1, 3, none⟩ (.slice Av x.f3.length cv)) = W := ⟨_, rfl⟩
   rw [hW] at HEB HD ⊢
   clear hW
   refine bodyPost_ret (results_cell_row rfl _ _ (g + 1) 36 #[.int .i64 x.f0, .int .i64 x.f1, .int .i64 x.f2, .slice Av x.f3.length cv] (0, 0) _ rfl HEB.out Try.underlying36 rfl (by kernel_rfl)) rfl ?_
   obtain ⟨⟨-, p3⟩, dd⟩ := HD.out
   exact ⟨_, rfl, Kd.S_mono p3 (fun _ _ => trivial), dd⟩
end Go.Proofs.Ytgmlpmdfkaadhaa.M
end

section
/- The reference's sequencer: New and Take. -/
attribute [local irreducible] Go.wpStill
namespace Go.Proofs.Ytgmlpmdfkaadhaa.M
open Go.RowKit Go.Proofs.YtgmlpmdfkaadhaaW.PrintWords Go.Proofs.YtgmlpmdfkaadhaaW.PrintLast Go.Proofs.YtgmlpmdfkaadhaaW.PrintMore Go.Proofs.Ytgmlpmdfkaadhaa.G
theorem TR.ofR {B base : Nat} {W : World} {ok : Nat → Prop} {v : Value} {l : List TxD} (h : Kd.R G.k32 32 W base ok v l) (hB : B ≤ base) : TR B W v l := by
 obtain ⟨_, inner, ho, hr⟩ := h
 exact ⟨inner, q_lower (q_of_own ho) hB, hr.imp_ (fun _ _ hM => Kd.FK_mono (Kd.FK_of_M (Kd.M_bound _ hM)) (fun k hk => .inr ⟨hk.2.2.1, hk.2.2.2⟩))⟩
theorem TR.get {B : Nat} {W : World} {A : Option Addr} {n c : Nat} {l : List TxD} (h : TR B W (.slice A n c) l) {j : Nat} {x : TxD} (hj : l[j]? = some x) :
  ∃ ad A2 c2 A3 c3 A4 c4 A5 c5, A = some ad ∧ TxAt W (ad.add (j * 6)) x A2 c2 A3 c3 A4 c4 A5 c5 ∧ Kd.FK G.k32 W (Inn B W) x [.int .i64 x.f0, .int .i64 x.f1, .slice A2 x.f2.length c2, .slice A3 x.f3.length c3, .slice A4 x.f4.length c4, .slice A5 x.f5.length c5] := by
 obtain ⟨inner, hq, hr⟩ := h
 have hn : n = l.length := by
  obtain ⟨A', c', he, _⟩ := q_slice hq
  injection he
 subst hn
 obtain ⟨ad, rfl, hc⟩ := q_cells hq (by have := (List.getElem?_eq_some_iff.1 hj).1; omega)
 have hK := hr.2 j x hj
 obtain ⟨A2, c2, A3, c3, A4, c4, A5, c5, he, _⟩ := G.k32_open (Kd.FK_now hK)
 have hcc : ∀ (i : Nat) (u : Value), ([.int .i64 x.f0, .int .i64 x.f1, .slice A2 x.f2.length c2, .slice A3 x.f3.length c3, .slice A4 x.f4.length c4, .slice A5 x.f5.length c5] : List Value)[i]? = some u → W.cell? (ad.add (j * 6 + i)) = some u := fun i u hu => by
  rw [← he, List.getElem?_take] at hu
  split at hu
  ·rw [List.getElem?_drop] at hu
   exact hc _ u hu
  ·cases hu
 rw [he] at hK
 refine ⟨ad, A2, c2, A3, c3, A4, c4, A5, c5, rfl, ⟨by simpa using hcc 0 _ rfl, ?_, ?_, ?_, ?_, ?_⟩, hK⟩
 ·rw [← add_field ad (j * 6) 1 (by omega)]; exact hcc 1 _ rfl
 ·rw [← add_field ad (j * 6) 2 (by omega)]; exact hcc 2 _ rfl
 ·rw [← add_field ad (j * 6) 3 (by omega)]; exact hcc 3 _ rfl
 ·rw [← add_field ad (j * 6) 4 (by omega)]; exact hcc 4 _ rfl
 ·rw [← add_field ad (j * 6) 5 (by omega)]; exact hcc 5 _ rfl
theorem TxAt.move {w w' : World} {p : Addr} {x : TxD} {A2 A3 A4 A5 : Option Addr} {c2 c3 c4 c5 : Nat} (h : TxAt w p x A2 c2 A3 c3 A4 c4 A5 c5) (hb : w'.heap[p.block]? = w.heap[p.block]?) : TxAt w' p x A2 c2 A3 c3 A4 c4 A5 c5 :=
 ⟨(World.cell?_of_block (a := p) hb).trans h.e0, (World.cell?_of_block (a := ⟨p.block, p.off + 1, none⟩) hb).trans h.e1, (World.cell?_of_block (a := ⟨p.block, p.off + 2, none⟩) hb).trans h.e2, (World.cell?_of_block (a := ⟨p.block, p.off + 3, none⟩) hb).trans h.e3, (World.cell?_of_block (a := ⟨p.block, p.off + 4, none⟩) hb).trans h.e4, (World.cell?_of_block (a := ⟨p.block, p.off + 5, none⟩) hb).trans h.e5⟩
structure IsRq (B : Nat) (W : World) (q : Nat) (s : SqS) (A : Option Addr) (c : Nat) : Prop where
 y : W.heap[q]? = some (.cells #[.int .i64 s.r, .slice A s.l.length c, .int .i64 s.n, .int .i64 s.t] 62)
 r : TR B W (.slice A s.l.length c) s.l
 o : OkQ s
 bg : B ≤ q
section
variable {B : Nat} {W W' : World} {q : Nat} {s : SqS} {A : Option Addr} {c : Nat}
theorem IsRq.glt (h : IsRq B W q s A c) : q < W.heap.size := (Array.getElem?_eq_some_iff.1 h.y).1
theorem IsRq.own_ne (h : IsRq B W q s A c) {a : Addr} (ha : A = some a) : a.block ≠ q := by
 obtain ⟨_, cells, hc⟩ := h.r.typed _ (own_iff.2 ⟨a, ha, rfl⟩)
 intro e
 have := h.y
 rw [← e, hc] at this
 injection this with this
 injection this with _ this
 exact absurd this (by decide)
theorem IsRq.out (h : IsRq B W q s A c) : ∀ k, sqS q q A k → ¬ Inn B W k := by
 rintro k (rfl | rfl | ⟨a, ha, rfl⟩)
 ·exact not_inn h.bg h.y rq_not
 ·exact not_inn h.bg h.y rq_not
 ·exact h.r.not_inn _ (own_iff.2 ⟨a, ha, rfl⟩)
theorem IsRq.lt (h : IsRq B W q s A c) : ∀ k, sqS q q A k → k < W.heap.size := by
 rintro k (rfl | rfl | ⟨a, ha, rfl⟩)
 ·exact h.glt
 ·exact h.glt
 ·exact h.r.lt _ (own_iff.2 ⟨a, ha, rfl⟩)
theorem IsRq.ge (h : IsRq B W q s A c) : ∀ k, sqS q q A k → B ≤ k := by
 rintro k (rfl | rfl | ⟨a, ha, rfl⟩)
 ·exact h.bg
 ·exact h.bg
 ·exact (h.r.typed _ (own_iff.2 ⟨a, ha, rfl⟩)).1
theorem IsRq.keep {S : Nat → Prop} (h : IsRq B W q s A c) (hk : KeepS S W W') (hs : ∀ k, S k → ¬ Inn B W k) (hd : ∀ k, sqS q q A k → ¬ S k) : IsRq B W' q s A c :=
 ⟨(hk.block q h.glt (hd q (.inl rfl))).trans h.y, h.r.keep hk hs (fun k e => hd k (.inr (.inr (own_iff.1 e)))), h.o, h.bg⟩
theorem IsRq.below (h : IsRq B W q s A c) (hb : Below W.heap.size W W') : IsRq B W' q s A c := h.keep (KeepS.of_below (fun _ => False) hb) (fun _ h => h.elim) (fun _ _ h => h)
end
theorem rnew_no {w : World} {r : Int} (h : ¬ (0 ≤ r ∧ r ≤ 4)) : Calls Try.prog 16 #[.int .i64 r] w fun e w' => e = .returned (.tuple #[.pointer none, .int .i64 1]) ∧ w' = w := by
 by_cases h0 : r < 0
 ·have q : decide (r < 0) = true := decide_eq_true h0
  clear h h0
  go_enter Try.func16, Try.ntmps16
  go_wp2_with fail
  go_ret2
  exact ⟨rfl, rfl⟩
 ·have q : decide (r < 0) = false := decide_eq_false h0
  have q2 : decide (5 ≤ r) = true := decide_eq_true (by omega)
  clear h h0
  go_enter Try.func16, Try.ntmps16
  go_wp2_with fail
  go_ret2
  exact ⟨rfl, rfl⟩
theorem rnew_is {w : World} {r : Int} (h : 0 ≤ r ∧ r ≤ 4) {B : Nat} (hB : B ≤ w.heap.size) : Calls Try.prog 16 #[.int .i64 r] w fun e w' => e = .returned (.tuple #[.pointer (some ⟨w.heap.size, 0, none⟩), .int .i64 0]) ∧ IsRq B w' w.heap.size (newQ r) none 0 ∧ Below w.heap.size w w' := by
 have q : decide (r < 0) = false := decide_eq_false (by omega)
 have q2 : decide (5 ≤ r) = false := decide_eq_false (by omega)
 have HR := Lib.hid h; have HB := Lib.hid hB
 clear h hB
 go_enter Try.func16, Try.ntmps16
 go_wp2_with fail
 go_ret2
 exact ⟨rfl, ⟨heap_alloc_new w _, TR.nil _ _, newQ_ok HR.out, HB.out⟩, (Below.refl _ _).alloc (Nat.le_refl _) _⟩
def RtakeP (B : Nat) (W : World) (q : Nat) (s : SqS) (A : Option Addr) (t : TxD) (e : Ending) (w' : World) : Prop :=
 ∃ A' c', e = .returned (.int .i64 (qTake s t).2) ∧ IsRq B w' q (qTake s t).1 A' c' ∧ KeepS (sqS q q A) W w' ∧ NewRow W A A'
set_option maxHeartbeats 2000000 in
theorem rtake_no {B : Nat} {W : World} {q : Nat} {s : SqS} {A : Option Addr} {c : Nat} (h : IsRq B W q s A c) {t : TxD} {A2 A3 A4 A5 : Option Addr} {c2 c3 c4 c5 : Nat} (hF : Kd.FK G.k32 W (Inn B W) t [.int .i64 t.f0, .int .i64 t.f1, .slice A2 t.f2.length c2, .slice A3 t.f3.length c3, .slice A4 t.f4.length c4, .slice A5 t.f5.length c5]) (ho : okT t = true) (hm : mayT t = false) :
  Calls Try.prog 18 #[.pointer (some ⟨q, 0, none⟩), .agg #[.int .i64 t.f0, .int .i64 t.f1, .slice A2 t.f2.length c2, .slice A3 t.f3.length c3, .slice A4 t.f4.length c4, .slice A5 t.f5.length c5]] W fun e w' => RtakeP B W q s A t e w' := by
 obtain ⟨hx, hb⟩ : (W.alloc (.cells #[.int .i64 t.f0, .int .i64 t.f1, .slice A2 t.f2.length c2, .slice A3 t.f3.length c3, .slice A4 t.f4.length c4, .slice A5 t.f5.length c5] 32)).heap[W.heap.size]? = some (.cells #[.int .i64 t.f0, .int .i64 t.f1, .slice A2 t.f2.length c2, .slice A3 t.f3.length c3, .slice A4 t.f4.length c4, .slice A5 t.f5.length c5] 32) ∧ Below W.heap.size W (W.alloc (.cells #[.int .i64 t.f0, .int .i64 t.f1, .slice A2 t.f2.length c2, .slice A3 t.f3.length c3, .slice A4 t.f4.length c4, .slice A5 t.f5.length c5] 32)) := ⟨heap_alloc_new W _, (Below.refl _ W).alloc (Nat.le_refl _) _⟩
 obtain ⟨w0, hw⟩ : ∃ V, W.alloc (.cells #[.int .i64 t.f0, .int .i64 t.f1, .slice A2 t.f2.length c2, .slice A3 t.f3.length c3, .slice A4 t.f4.length c4, .slice A5 t.f5.length c5] 32) = V := ⟨_, rfl⟩
 rw [hw] at hx hb
 have HX0 := Lib.hid hx; have HB0 := Lib.hid hb; have HF0 := Lib.hid (FK_calm hF (.of_below hb)); have HQ := Lib.hid h
 have HO := Lib.hid ho
 have HW := Lib.hid hw
 have HLT := Lib.hid (show (∀ k, sqS q q A k → k < W.heap.size) ∧ B ≤ W.heap.size from ⟨h.lt, Nat.le_trans h.bg (Nat.le_of_lt h.glt)⟩)
 have HE := Lib.hid (show okE 1 0 0 [t] = true ∧ (entF 1 0 0 [t]).2 = 40 from ⟨by unfold okE; rw [List.all_cons, ho]; rfl, by rw [one_err ho, if_neg (by rw [hm]; simp)]⟩)
 have HR := Lib.hid (show qTake s t = (s, 1) by unfold qTake; rw [if_pos hm])
 clear hm
 clear h hF hx hb ho hw
 go_enter Try.func18, Try.ntmps18
 go_upto_region 1 with fail
 rw [HW.out]
 refine wp_region_list ?_
 refine wpList_load_row rfl 32 (.tmp 3) rfl W.heap.size rfl 32 #[.int .i64 t.f0, .int .i64 t.f1, .slice A2 t.f2.length c2, .slice A3 t.f3.length c3, .slice A4 t.f4.length c4, .slice A5 t.f5.length c5] (0, 0) _ HX0.out Try.underlying32 rfl (by kernel_rfl) ?_
 go_wp2_with fail
 have hb1 := (Below.refl w0.heap.size w0).alloc (Nat.le_refl _) (.cells #[.int .i64 t.f0, .int .i64 t.f1, .slice A2 t.f2.length c2, .slice A3 t.f3.length c3, .slice A4 t.f4.length c4, .slice A5 t.f5.length c5] 32)
 have h1 : Kd.C G.k32 (w0.alloc (.cells #[.int .i64 t.f0, .int .i64 t.f1, .slice A2 t.f2.length c2, .slice A3 t.f3.length c3, .slice A4 t.f4.length c4, .slice A5 t.f5.length c5] 32)) (some ⟨w0.heap.size, 0, none⟩) 1 [t] := C_tx1 (txC_of HF0.out) _
 have HB1 := Lib.hid (HB0.out.trans (hb1.mono HB0.out.size)); have HC1 := Lib.hid h1
 have HX1 := Lib.hid ((hb1.block _ (blk_lt HX0.out)).trans HX0.out); have HF1 := Lib.hid (FK_calm HF0.out (.of_below hb1))
 obtain ⟨ob, hob⟩ : ∃ ob, w0.heap.size = ob := ⟨_, rfl⟩
 obtain ⟨w1, hw1⟩ : ∃ V, w0.alloc (.cells #[.int .i64 t.f0, .int .i64 t.f1, .slice A2 t.f2.length c2, .slice A3 t.f3.length c3, .slice A4 t.f4.length c4, .slice A5 t.f5.length c5] 32) = V := ⟨_, rfl⟩
 rw [hw1] at HB1 HC1 HX1 HF1 ⊢
 rw [hob] at HC1 ⊢
 have h4 := refEntry_is (w := w1) ⟨1, 0, 0, [t]⟩ (E := some ⟨ob, 0, none⟩) (ce := 1) HC1.out (Nat.le_refl 1) HE.out.1
 dsimp only at h4
 rw [HE.out.2] at h4
 clear h1 hb1 hw1 hob
 refine h4.mono ?_
 rintro e w2 ⟨v, rfl, hv, hb⟩
 have HB2 := Lib.hid (HB1.out.trans (hb.mono HB1.out.size)); have HC2 := Lib.hid (Kd.C_below HC1.out hb); have HX2 := Lib.hid ((hb.block _ (blk_lt HX1.out)).trans HX1.out); have HF2 := Lib.hid (FK_calm HF1.out (.of_below hb))
 clear h4 hv hb HB1 HC1 HX1 HF1 HX0 HB0 HF0 HW
 go_wp2_with fail
 go_ret
 exact ⟨A, c, by rw [HR.out]; rfl, by rw [HR.out]; exact HQ.out.below HB2.out, KeepS.of_below _ HB2.out, NewRow.refl _ _⟩
set_option maxHeartbeats 8000000 in
theorem rtake_may {B : Nat} {W : World} {q : Nat} {s : SqS} {A : Option Addr} {c : Nat} (h : IsRq B W q s A c) {t : TxD} {A2 A3 A4 A5 : Option Addr} {c2 c3 c4 c5 : Nat} (hF : Kd.FK G.k32 W (Inn B W) t [.int .i64 t.f0, .int .i64 t.f1, .slice A2 t.f2.length c2, .slice A3 t.f3.length c3, .slice A4 t.f4.length c4, .slice A5 t.f5.length c5]) (ho : okT t = true) (hm : mayT t = true) :
  Calls Try.prog 18 #[.pointer (some ⟨q, 0, none⟩), .agg #[.int .i64 t.f0, .int .i64 t.f1, .slice A2 t.f2.length c2, .slice A3 t.f3.length c3, .slice A4 t.f4.length c4, .slice A5 t.f5.length c5]] W fun e w' => RtakeP B W q s A t e w' := by
 obtain ⟨hx, hb⟩ : (W.alloc (.cells #[.int .i64 t.f0, .int .i64 t.f1, .slice A2 t.f2.length c2, .slice A3 t.f3.length c3, .slice A4 t.f4.length c4, .slice A5 t.f5.length c5] 32)).heap[W.heap.size]? = some (.cells #[.int .i64 t.f0, .int .i64 t.f1, .slice A2 t.f2.length c2, .slice A3 t.f3.length c3, .slice A4 t.f4.length c4, .slice A5 t.f5.length c5] 32) ∧ Below W.heap.size W (W.alloc (.cells #[.int .i64 t.f0, .int .i64 t.f1, .slice A2 t.f2.length c2, .slice A3 t.f3.length c3, .slice A4 t.f4.length c4, .slice A5 t.f5.length c5] 32)) := ⟨heap_alloc_new W _, (Below.refl _ W).alloc (Nat.le_refl _) _⟩
 obtain ⟨w0, hw⟩ : ∃ V, W.alloc (.cells #[.int .i64 t.f0, .int .i64 t.f1, .slice A2 t.f2.length c2, .slice A3 t.f3.length c3, .slice A4 t.f4.length c4, .slice A5 t.f5.length c5] 32) = V := ⟨_, rfl⟩
 rw [hw] at hx hb
 have HX0 := Lib.hid hx; have HB0 := Lib.hid hb; have HF0 := Lib.hid (FK_calm hF (.of_below hb)); have HQ := Lib.hid h
 have HO := Lib.hid ho
 have HW := Lib.hid hw
 have HLT := Lib.hid (show (∀ k, sqS q q A k → k < W.heap.size) ∧ B ≤ W.heap.size from ⟨h.lt, Nat.le_trans h.bg (Nat.le_of_lt h.glt)⟩)
 have HM := Lib.hid hm
 have HE := Lib.hid (show okE 1 0 0 [t] = true ∧ (entF 1 0 0 [t]).2 = 0 from ⟨by unfold okE; rw [List.all_cons, ho]; rfl, by rw [one_err ho, if_pos hm]⟩)
 clear hm
 clear h hF hx hb ho hw
 go_enter Try.func18, Try.ntmps18
 go_upto_region 1 with fail
 rw [HW.out]
 refine wp_region_list ?_
 refine wpList_load_row rfl 32 (.tmp 3) rfl W.heap.size rfl 32 #[.int .i64 t.f0, .int .i64 t.f1, .slice A2 t.f2.length c2, .slice A3 t.f3.length c3, .slice A4 t.f4.length c4, .slice A5 t.f5.length c5] (0, 0) _ HX0.out Try.underlying32 rfl (by kernel_rfl) ?_
 go_wp2_with fail
 have hb1 := (Below.refl w0.heap.size w0).alloc (Nat.le_refl _) (.cells #[.int .i64 t.f0, .int .i64 t.f1, .slice A2 t.f2.length c2, .slice A3 t.f3.length c3, .slice A4 t.f4.length c4, .slice A5 t.f5.length c5] 32)
 have h1 : Kd.C G.k32 (w0.alloc (.cells #[.int .i64 t.f0, .int .i64 t.f1, .slice A2 t.f2.length c2, .slice A3 t.f3.length c3, .slice A4 t.f4.length c4, .slice A5 t.f5.length c5] 32)) (some ⟨w0.heap.size, 0, none⟩) 1 [t] := C_tx1 (txC_of HF0.out) _
 have HB1 := Lib.hid (HB0.out.trans (hb1.mono HB0.out.size)); have HC1 := Lib.hid h1
 have HX1 := Lib.hid ((hb1.block _ (blk_lt HX0.out)).trans HX0.out); have HF1 := Lib.hid (FK_calm HF0.out (.of_below hb1))
 obtain ⟨ob, hob⟩ : ∃ ob, w0.heap.size = ob := ⟨_, rfl⟩
 obtain ⟨w1, hw1⟩ : ∃ V, w0.alloc (.cells #[.int .i64 t.f0, .int .i64 t.f1, .slice A2 t.f2.length c2, .slice A3 t.f3.length c3, .slice A4 t.f4.length c4, .slice A5 t.f5.length c5] 32) = V := ⟨_, rfl⟩
 rw [hw1] at HB1 HC1 HX1 HF1 ⊢
 rw [hob] at HC1 ⊢
 have h4 := refEntry_is (w := w1) ⟨1, 0, 0, [t]⟩ (E := some ⟨ob, 0, none⟩) (ce := 1) HC1.out (Nat.le_refl 1) HE.out.1
 dsimp only at h4
 rw [HE.out.2] at h4
 clear h1 hb1 hw1 hob
 refine h4.mono ?_
 rintro e w2 ⟨v, rfl, hv, hb⟩
 have HB2 := Lib.hid (HB1.out.trans (hb.mono HB1.out.size)); have HC2 := Lib.hid (Kd.C_below HC1.out hb); have HX2 := Lib.hid ((hb.block _ (blk_lt HX1.out)).trans HX1.out); have HF2 := Lib.hid (FK_calm HF1.out (.of_below hb))
 clear h4 hv hb HB1 HC1 HX1 HF1 HX0 HB0 HF0 HW
 have d0 : w2.cell? ⟨W.heap.size, 0, none⟩ = some (.int .i64 t.f0) := (blk_cell HX2.out 0).trans rfl
 have d1 : w2.cell? ⟨W.heap.size, 1, none⟩ = some (.int .i64 t.f1) := (blk_cell HX2.out 1).trans rfl
 have HQ2 := Lib.hid (HQ.out.below HB2.out)
 have e1 : w2.cell? ⟨q, 1, none⟩ = some (.slice A s.l.length c) := (blk_cell HQ2.out.y 1).trans rfl
 have HLL := Lib.hid (show s.l.length ≤ 64 from HQ2.out.o.m)
 go_wp2_with fail
 go_loopw [8] (fun i wr => ∃ k : Nat, i = .int .i64 (k : Int) ∧ k ≤ s.l.length ∧ Aside0 (Below w2.heap.size w2 wr ∧ ∀ (j : Nat) (x : TxD), j < k → s.l[j]? = some x → (x.f0, x.f1) ≠ (t.f0, t.f1))) (fun i _ => s.l.length - (intOf i).toNat)
 case atStart => exact ⟨0, rfl, Nat.zero_le _, ⟨Below.refl _ _, fun j _ h => absurd h (Nat.not_lt_zero j)⟩⟩
 case round =>
  obtain ⟨k, rfl, hk, HRR⟩ := hrel
  have HBr := Lib.hid (HB2.out.trans (HRR.out.1.mono HB2.out.size)); have HQr := Lib.hid (HQ2.out.below HRR.out.1); have HXr := Lib.hid ((HRR.out.1.block _ (blk_lt HX2.out)).trans HX2.out)
  have HCr := Lib.hid (Kd.C_below HC2.out HRR.out.1); have HFr := Lib.hid (FK_calm HF2.out (.of_below HRR.out.1))
  have hk64 : k ≤ 64 := by have := HLL.out; omega
  clear d0 d1 e1
  have d0 : wr.cell? ⟨W.heap.size, 0, none⟩ = some (.int .i64 t.f0) := (blk_cell HXr.out 0).trans rfl
  have d1 : wr.cell? ⟨W.heap.size, 1, none⟩ = some (.int .i64 t.f1) := (blk_cell HXr.out 1).trans rfl
  have e1 : wr.cell? ⟨q, 1, none⟩ = some (.slice A s.l.length c) := (blk_cell HQr.out.y 1).trans rfl
  by_cases hlt : k < s.l.length
  ·obtain ⟨x, hx⟩ : ∃ x, s.l[k]? = some x := ⟨_, List.getElem?_eq_getElem hlt⟩
   obtain ⟨ad, X2, y2, X3, y3, X4, y4, X5, y5, hAd, ⟨x0, x1, -, -, -, -⟩, -⟩ := tx_get HQr.out.r.reads.2.2 hx
   have HGX := Lib.hid hx; have HAD := Lib.hid hAd
   have HLT := Lib.hid hlt
   have q1 : decide (k < s.l.length) = true := decide_eq_true hlt
   rw [hAd] at e1
   clear hx hAd
   go_upto_region 8 with fail
   by_cases h0 : x.f0 = t.f0
   ·have p0 : (x.f0 == t.f0) = true := beq_iff_eq.2 h0
    by_cases h1 : x.f1 = t.f1
    ·have p1 : (x.f1 == t.f1) = true := beq_iff_eq.2 h1
     have HR := Lib.hid (show qTake s t = (s, 210) by
      unfold qTake
      rw [if_neg (by rw [HM.out]; simp), if_pos]
      unfold waitsB
      rw [List.any_eq_true]
      exact ⟨x, List.mem_of_getElem? HGX.out, by unfold keyTx; rw [h0, h1]; exact beq_self_eq_true _⟩)
     clear h0 h1
     refine wp_region_still_tail 23 (by kernel_rfl) (by kernel_rfl) ?_
     simp only [List.take_succ_cons, List.take_zero, List.drop_succ_cons, List.drop_zero]
     iterate 23 still_step
     refine wpStill_nil ?_
     change wpList _ _ _ _ _ wr.drew
     go_wp2_with fail
     go_ret
     exact ⟨A, c, by rw [HR.out]; rfl, by rw [HR.out]; exact HQr.out.below (Below.refl _ wr).drew, KeepS.of_below _ HBr.out.drew, NewRow.refl _ _⟩
    ·have p1 : (x.f1 == t.f1) = false := beq_eq_false_iff_ne.2 h1
     have HNE := Lib.hid (show (x.f0, x.f1) ≠ (t.f0, t.f1) from fun e => h1 (by injection e))
     clear h0 h1
     refine wp_region_still_tail 23 (by kernel_rfl) (by kernel_rfl) ?_
     simp only [List.take_succ_cons, List.take_zero, List.drop_succ_cons, List.drop_zero]
     iterate 23 still_step
     refine wpStill_nil ?_
     change wpList _ _ _ _ _ wr.drew
     go_wp2_with fail
     go_roundw
     case rel => exact ⟨k + 1, by go_num, HLT.out, ⟨HRR.out.1.drew, fun j y hj hy => by
      rcases Nat.lt_or_ge j k with h | h
      ·exact HRR.out.2 j y h hy
      ·obtain rfl : j = k := by omega
       rw [HGX.out] at hy
       injection hy with hy
       subst hy
       exact HNE.out⟩⟩
     case measure => have := HLT.out; simp [intOf]; omega
   ·have p0 : (x.f0 == t.f0) = false := beq_eq_false_iff_ne.2 h0
    have HNE := Lib.hid (show (x.f0, x.f1) ≠ (t.f0, t.f1) from fun e => h0 (by injection e))
    clear h0
    refine wp_region_still_tail 23 (by kernel_rfl) (by kernel_rfl) ?_
    simp only [List.take_succ_cons, List.take_zero, List.drop_succ_cons, List.drop_zero]
    iterate 23 still_step
    refine wpStill_nil ?_
    change wpList _ _ _ _ _ wr.drew
    go_wp2_with fail
    go_roundw
    case rel => exact ⟨k + 1, by go_num, HLT.out, ⟨HRR.out.1.drew, fun j y hj hy => by
     rcases Nat.lt_or_ge j k with h | h
     ·exact HRR.out.2 j y h hy
     ·obtain rfl : j = k := by omega
      rw [HGX.out] at hy
      injection hy with hy
      subst hy
      exact HNE.out⟩⟩
    case measure => have := HLT.out; simp [intOf]; omega
  ·have q1 : decide (k < s.l.length) = false := decide_eq_false hlt
   have HNW := Lib.hid (show waitsB s.l (keyTx t) = false by
    unfold waitsB
    rw [List.any_eq_false]
    intro x hx
    obtain ⟨j, hj⟩ := List.getElem?_of_mem hx
    have h9 := HRR.out.2 j x (by have := (List.getElem?_eq_some_iff.1 hj).1; omega) hj
    unfold keyTx
    rw [beq_iff_eq]
    exact h9)
   clear hlt
   by_cases hf : 64 ≤ s.l.length
   ·have HR := Lib.hid (show qTake s t = (s, 6) by unfold qTake; rw [if_neg (by rw [HM.out]; simp), if_neg (by rw [HNW.out]; simp), if_pos hf])
    have q2 : decide (64 ≤ s.l.length) = true := decide_eq_true hf
    have q3 : decide (64 ≤ (s.l.length : Int)) = true := decide_eq_true (by omega)
    clear hf
    go_wp2_with fail
    go_ret
    exact ⟨A, c, by rw [HR.out]; rfl, by rw [HR.out]; exact HQr.out, KeepS.of_below _ HBr.out, NewRow.refl _ _⟩
   ·have HR := Lib.hid (show qTake s t = ({ s with l := s.l ++ [t] }, 0) by unfold qTake; rw [if_neg (by rw [HM.out]; simp), if_neg (by rw [HNW.out]; simp), if_neg hf])
    have HL := Lib.hid (show s.l.length < 64 by omega)
    have q2 : decide (64 ≤ s.l.length) = false := decide_eq_false hf
    have q3 : decide (64 ≤ (s.l.length : Int)) = false := decide_eq_false (by omega)
    clear hf
    go_wp2_with fail
    refine (refCloneEn_is (w := wr) ⟨1, 0, 0, [t]⟩ (A := some ⟨ob, 0, none⟩) (c := 1) (Nat.le_refl 1) HCr.out ⟨(by decide : 1 ≤ 1048576), fun u hu => by rw [List.mem_singleton.1 hu]; exact smT_of HM.out⟩).mono ?_
    rintro e w3 ⟨v3, rfl, hS, hb⟩
    obtain ⟨E, ce, rfl⟩ := Kd.S_slice hS
    have HT3 := Lib.hid (TR.ofR (B := B) (Kd.S_R hS) (by have := HLT.out.2; have := HBr.out.size; omega))
    have HB3 := Lib.hid (HBr.out.trans (hb.mono HBr.out.size)); have HQ3 := Lib.hid (HQr.out.below hb)
    have HEN := Lib.hid (show ∀ a, E = some a → wr.heap.size ≤ a.block from fun a ha => Kd.S_base hS _ (own_iff.2 ⟨a, ha, rfl⟩))
    clear hS hb d0 d1 e1 HBr HQr HXr HCr HFr q1 q2 q3
    go_upto_region 13 with fail
    have HB4 := Lib.hid ((Below.refl w3.heap.size w3).alloc (Nat.le_refl _) (.cells #[.int .i64 1, .int .i64 0, .int .i64 0, .slice E 1 ce] 36))
    have HX4 := Lib.hid (heap_alloc_new w3 (.cells #[.int .i64 1, .int .i64 0, .int .i64 0, .slice E 1 ce] 36))
    obtain ⟨xb, hxb⟩ : ∃ xb, w3.heap.size = xb := ⟨_, rfl⟩
    have HXB := Lib.hid (show W.heap.size ≤ xb by have := HB3.out.size; omega)
    obtain ⟨w4, hw4⟩ : ∃ V, w3.alloc (.cells #[.int .i64 1, .int .i64 0, .int .i64 0, .slice E 1 ce] 36) = V := ⟨_, rfl⟩
    rw [hw4] at HB4 HX4 ⊢
    rw [hxb] at HX4 ⊢
    have HT4 := Lib.hid ((HT3.out.below HB4.out).below (Below.refl _ w4).drew); have HQ4 := Lib.hid ((HQ3.out.below HB4.out).below (Below.refl _ w4).drew); have HBB4 := Lib.hid ((HB3.out.trans (HB4.out.mono HB3.out.size)).drew)
    have HX5 := Lib.hid (show w4.drew.heap[xb]? = _ from HX4.out)
    obtain ⟨ad, N2, n2, N3, n3, N4, n4, N5, n5, hEad, hAt, hFK⟩ := HT4.out.get (x := t) (j := 0) rfl
    clear hw4 hxb HT3 HB3 HQ3 HB4
    have HX6 := Lib.hid (show w4.drew.heap[xb]? = some (.cells #[.int .i64 1, .int .i64 0, .int .i64 0, .slice (some ad) 1 ce] 36) by rw [← hEad]; exact HX5.out)
    have e0 : ad.add (0 * 6) = ad := by simp [Addr.add]
    rw [e0] at hAt
    clear e0
    have HADB := Lib.hid (show W.heap.size ≤ ad.block by have h1 := HEN.out ad hEad; have h2 := HB2.out.size; have h3 := HRR.out.1.size; omega)
    have HAT := Lib.hid hAt; have HFK := Lib.hid hFK
    clear hAt hFK hEad HX5 HX4
    refine start_ (n := 14) (S := fun w' => w'.cell? ⟨q, 1, none⟩ = some (.slice A s.l.length c) ∧ w'.cell? ⟨xb, 3, none⟩ = some (.slice (some ad) 1 ce) ∧ TxAt w' ad t N2 n2 N3 n3 N4 n4 N5 n5) (ds := [13]) #[false, false, false, false, false, false, false, false, false, false, false, false, false, false] (by kernel_rfl) rfl rfl ⟨(blk_cell HQ4.out.y 1).trans rfl, (blk_cell HX6.out 3).trans rfl, HAT.out⟩ (fun hHeld => ?_)
    obtain ⟨wa, hwa⟩ : ∃ wa, w4.drew = wa := ⟨_, rfl⟩
    rw [hwa] at HT4 HQ4 HBB4 HX6 HAT HFK hHeld ⊢
    clear hwa
    refine pure_ (i := 0) (N := some 62) (v := ?_) (a' := ?_) #[true, false, false, false, false, false, false, false, false, false, false, false, false, false] rfl rfl (by kernel_rfl) (fun _ _ _ h => h) (Or.inl ⟨by rfl, ?_⟩) ?_ ?_
    rotate_left
    ·intro w'
     go_simp
     try with_reducible rfl
    rotate_left
    ·simp only [Act.put, sq1, sq2, sq3, i64_w, i32_w]
     rfl
    refine pure_ (i := 1) (N := some 63) (v := ?_) (a' := ?_) #[true, true, false, false, false, false, false, false, false, false, false, false, false, false] rfl rfl (by kernel_rfl) (fun _ _ _ h => h) (Or.inl ⟨by rfl, ?_⟩) ?_ ?_
    rotate_left
    ·intro w'
     go_simp
     try with_reducible rfl
    rotate_left
    ·simp only [Act.put, sq1, sq2, sq3, i64_w, i32_w]
     rfl
    refine pure_ (i := 2) (N := some 64) (v := ?_) (a' := ?_) #[true, true, true, false, false, false, false, false, false, false, false, false, false, false] rfl rfl (by kernel_rfl) (fun _ _ _ h => h) (Or.inl ⟨by rfl, ?_⟩) ?_ ?_
    rotate_left
    ·intro w'
     go_simp
     try with_reducible rfl
    rotate_left
    ·simp only [Act.put, sq1, sq2, sq3, i64_w, i32_w]
     rfl
    refine pure_ (i := 3) (N := some 65) (v := ?_) (a' := ?_) #[true, true, true, true, false, false, false, false, false, false, false, false, false, false] rfl rfl (by kernel_rfl) (fun _ _ _ h => h) (Or.inl ⟨by rfl, ?_⟩) ?_ ?_
    rotate_left
    ·intro w'
     go_simp
     try with_reducible rfl
    rotate_left
    ·simp only [Act.put, sq1, sq2, sq3, i64_w, i32_w]
     rfl
    refine take_ (i := 4) (N := some 66) (v := ?_) (a' := ?_) #[true, true, true, true, true, false, false, false, false, false, false, false, false, false] rfl rfl (by kernel_rfl) (fun _ _ _ h => h) (Or.inl ⟨by rfl, ?_⟩) hHeld ?_ ?_
    rotate_left
    ·intro w' hS
     obtain ⟨hS, _⟩ := hS
     go_simp
     try with_reducible rfl
    rotate_left
    ·simp only [Act.put, sq1, sq2, sq3, i64_w, i32_w]
     rfl
    refine pure_ (i := 5) (N := some 67) (v := ?_) (a' := ?_) #[true, true, true, true, true, true, false, false, false, false, false, false, false, false] rfl rfl (by kernel_rfl) (fun _ _ _ h => h) (Or.inl ⟨by rfl, ?_⟩) ?_ ?_
    rotate_left
    ·intro w'
     go_simp
     try with_reducible rfl
    rotate_left
    ·simp only [Act.put, sq1, sq2, sq3, i64_w, i32_w]
     rfl
    refine take_ (i := 6) (N := some 68) (v := ?_) (a' := ?_) #[true, true, true, true, true, true, true, false, false, false, false, false, false, false] rfl rfl (by kernel_rfl) (fun _ _ _ h => h) (Or.inl ⟨by rfl, ?_⟩) hHeld ?_ ?_
    rotate_left
    ·intro w' hS
     obtain ⟨_, hS, _⟩ := hS
     go_simp
     try with_reducible rfl
    rotate_left
    ·simp only [Act.put, sq1, sq2, sq3, i64_w, i32_w]
     rfl
    refine pure_ (i := 7) (N := some 69) (v := ?_) (a' := ?_) #[true, true, true, true, true, true, true, true, false, false, false, false, false, false] rfl rfl (by kernel_rfl) (fun _ _ _ h => h) (Or.inl ⟨by rfl, ?_⟩) ?_ ?_
    rotate_left
    ·intro w'
     go_simp
     try with_reducible rfl
    rotate_left
    ·simp only [Act.put, sq1, sq2, sq3, i64_w, i32_w]
     rfl
    refine take_ (i := 8) (N := some 70) (v := ?_) (a' := ?_) #[true, true, true, true, true, true, true, true, true, false, false, false, false, false] rfl rfl (by kernel_rfl) (fun _ _ _ h => h) (Or.inl ⟨by rfl, ?_⟩) hHeld ?_ ?_
    rotate_left
    ·intro w' hS
     obtain ⟨_, _, ⟨x0, x1, x2, x3, x4, x5⟩⟩ := hS
     go_simp
     try with_reducible rfl
    rotate_left
    ·simp only [Act.put, sq1, sq2, sq3, i64_w, i32_w]
     rfl
    refine one_ (i := 9) (N := some 71) #[true, true, true, true, true, true, true, true, true, true, false, false, false, false] rfl rfl (by kernel_rfl) (by decide) (fun K hK => ?_)
    refine value_ (w1 := ?_) (v := ?_) (by rfl) rfl ?_ ?_
    rotate_left 2
    ·go_simp
     constructor <;> rfl
    have HB8 := Lib.hid ((Below.refl wa.heap.size wa).alloc (Nat.le_refl _) (.cells #[.int .i64 t.f0, .int .i64 t.f1, .slice N2 t.f2.length n2, .slice N3 t.f3.length n3, .slice N4 t.f4.length n4, .slice N5 t.f5.length n5] 32))
    have HA8 := Lib.hid (HAT.out.below HB8.out)
    refine hK.out _ _ ⟨(blk_cell (HQ4.out.below HB8.out).y 1).trans rfl, (blk_cell ((HB8.out.block xb (blk_lt HX6.out)).trans HX6.out) 3).trans rfl, HA8.out⟩ (fun hHeld => ?_)
    clear hK K
    refine norm_ (a' := ?_) ?_ ?_
    rotate_left
    ·show Act.put _ (some 71) _ = _
     simp only [Act.put, sq1, sq2, sq3, i64_w, i32_w]
     rfl
    have HQ8 := Lib.hid (HQ4.out.below HB8.out); have HX8 := Lib.hid ((HB8.out.block xb (blk_lt HX6.out)).trans HX6.out); have HBB8 := Lib.hid (HBB4.out.trans (HB8.out.mono HBB4.out.size))
    have HS8 := Lib.hid (show Src B (wa.alloc (.cells #[.int .i64 t.f0, .int .i64 t.f1, .slice N2 t.f2.length n2, .slice N3 t.f3.length n3, .slice N4 t.f4.length n4, .slice N5 t.f5.length n5] 32)) _ _ _ from src_one (B := B) (e := 32) HFK.out)
    have HA9 := Lib.hid (show ∀ a, A = some a → a.block < W.heap.size from fun a ha => HLT.out.1 _ (.inr (.inr ⟨a, ha, rfl⟩)))
    obtain ⟨ab, hab⟩ : ∃ ab, wa.heap.size = ab := ⟨_, rfl⟩
    obtain ⟨w8, hw8⟩ : ∃ V, wa.alloc (.cells #[.int .i64 t.f0, .int .i64 t.f1, .slice N2 t.f2.length n2, .slice N3 t.f3.length n3, .slice N4 t.f4.length n4, .slice N5 t.f5.length n5] 32) = V := ⟨_, rfl⟩
    rw [hw8] at HQ8 HX8 HBB8 HS8 HA8 hHeld ⊢
    rw [hab] at HS8 ⊢
    clear hw8 hab HT4 HQ4 HBB4 HX6 HAT HB8 HFK
    refine one_ (i := 10) (N := some 72) #[true, true, true, true, true, true, true, true, true, true, true, false, false, false] rfl rfl (by kernel_rfl) (by decide) (fun K hK => ?_)
    refine tr_append_step (by rfl) (.tmp 66) (.tmp 71) rfl rfl rfl HQ8.out.r HS8.out rfl (by decide) (by have := HL.out; omega) (by have := HLT.out.2; have := HBB8.out.size; omega) ?_
    intro v_ w9 hn hg_ hat
    obtain ⟨A', c', rfl, _⟩ := hn.slice
    have HK9 := Lib.hid (KeepS.of_grown (S := sqS q q A) hg_ (fun i hi => .inr (.inr (own_iff.1 hi))))
    have HN9 := Lib.hid (NewRow.of hat)
    have HT9 := Lib.hid hn
    have HY9 := Lib.hid ((hg_.block q HQ8.out.glt (fun e => by obtain ⟨a, ha, e2⟩ := own_iff.1 e.symm; exact HQ8.out.own_ne ha e2)).trans HQ8.out.y)
    have HX9 := Lib.hid ((hg_.block xb (blk_lt HX8.out) (fun e => by obtain ⟨a, ha, e2⟩ := own_iff.1 e.symm; have h1 := HA9.out a ha; have h2 := HXB.out; omega)).trans HX8.out)
    have HAT9 := Lib.hid (HA8.out.move (hg_.block ad.block (World.block_lt_of_cell? _ _ HA8.out.e0) (fun e => by obtain ⟨a, ha, e2⟩ := own_iff.1 e.symm; have h1 := HA9.out a ha; have h2 := HADB.out; omega)))
    have HW9 := Lib.hid ((KeepS.of_below (sqS q q A) HBB8.out).trans HK9.out)
    have HA := Lib.hid (HN9.out.up HBB8.out.size)
    have HOG := Lib.hid (show ∀ a', A' = some a' → a'.block ≠ q by
     intro a' ha
     rcases HN9.out a' ha with ⟨a, h1, h2⟩ | h
     ·rw [← h2]; exact HQ8.out.own_ne h1
     ·have := HQ8.out.glt; omega)
    clear hn hg_ hat HX8 HBB8 HK9 HN9 HS8 HA8
    refine hK.out _ _ ⟨(blk_cell HY9.out 1).trans rfl, (blk_cell HX9.out 3).trans rfl, HAT9.out⟩ (fun hHeld => ?_)
    clear hK K
    refine norm_ (a' := ?_) ?_ ?_
    rotate_left
    ·show Act.put _ (some 72) _ = _
     simp only [Act.put, sq1, sq2, sq3, i64_w, i32_w]
     rfl
    refine pure_ (i := 11) (N := some 73) (v := ?_) (a' := ?_) #[true, true, true, true, true, true, true, true, true, true, true, true, false, false] rfl rfl (by kernel_rfl) (fun _ _ _ h => h) (Or.inl ⟨by rfl, ?_⟩) ?_ ?_
    rotate_left
    ·intro w'
     go_simp
     try with_reducible rfl
    rotate_left
    ·simp only [Act.put, sq1, sq2, sq3, i64_w, i32_w]
     rfl
    refine pure_ (i := 12) (N := some 74) (v := ?_) (a' := ?_) #[true, true, true, true, true, true, true, true, true, true, true, true, true, false] rfl rfl (by kernel_rfl) (fun _ _ _ h => h) (Or.inl ⟨by rfl, ?_⟩) ?_ ?_
    rotate_left
    ·intro w'
     go_simp
     try with_reducible rfl
    rotate_left
    ·simp only [Act.put, sq1, sq2, sq3, i64_w, i32_w]
     rfl
    have q2 : w9.cell? ⟨q, 1, none⟩ = some (.slice A s.l.length c) := (blk_cell HY9.out 1).trans rfl
    have z2 : w9.frozen? ⟨q, 1, none⟩ = false := blk_frozen HY9.out 1
    refine last_ (i := 13) (N := none) #[true, true, true, true, true, true, true, true, true, true, true, true, true, true] rfl rfl (by kernel_rfl) (by decide) (fun K hK => ?_)
    refine skip_ (w1 := ?_) (by rfl) rfl ?_ ?_
    rotate_left
    ·go_simp
     rfl
    refine hK.out _ _ ?_
    clear hK K
    refine done_ (by kernel_rfl) ?_
    go_wp2_with fail
    go_ret
    refine ⟨A', c', by rw [HR.out]; rfl, ?_, HW9.out.set (p := ⟨q, 1, none⟩) (.inl (.inl rfl)) _, HA.out⟩
    rw [HR.out]
    have hl : (s.l ++ [t]).length = s.l.length + 1 := by simp
    have hk := (KeepS.refl (fun i => i = q) w9).set (p := ⟨q, 1, none⟩) (.inl rfl) (.slice A' (s.l.length + 1) c')
    refine ⟨?_, HT9.out.keep hk (fun i e => by subst e; exact not_inn HQ8.out.bg HY9.out rq_not) (fun k hk' e => by obtain ⟨a, ha, e2⟩ := own_iff.1 hk'; exact HOG.out a ha (e2.trans e)), ?_, HQ8.out.bg⟩
    ·show _ = some (Obj.cells #[.int .i64 s.r, .slice A' (s.l ++ [t]).length c', .int .i64 s.n, .int .i64 s.t] _ _)
     rw [hl]
     exact blk_put HY9.out 1 _ rfl
    ·have h10 := HQ8.out.o.take HO.out
     rw [HR.out] at h10
     exact h10
theorem rtake_is {B : Nat} {W : World} {q : Nat} {s : SqS} {A : Option Addr} {c : Nat} (h : IsRq B W q s A c) {t : TxD} {A2 A3 A4 A5 : Option Addr} {c2 c3 c4 c5 : Nat} (hF : Kd.FK G.k32 W (Inn B W) t [.int .i64 t.f0, .int .i64 t.f1, .slice A2 t.f2.length c2, .slice A3 t.f3.length c3, .slice A4 t.f4.length c4, .slice A5 t.f5.length c5]) (ho : okT t = true) :
  Calls Try.prog 18 #[.pointer (some ⟨q, 0, none⟩), .agg #[.int .i64 t.f0, .int .i64 t.f1, .slice A2 t.f2.length c2, .slice A3 t.f3.length c3, .slice A4 t.f4.length c4, .slice A5 t.f5.length c5]] W fun e w' => RtakeP B W q s A t e w' := by
 cases hm : mayT t with
 | true => exact rtake_may h hF ho hm
 | false => exact rtake_no h hF ho hm
end Go.Proofs.Ytgmlpmdfkaadhaa.M
end

section
/- The reference's takes, Flush, Tick. -/
attribute [local irreducible] Go.wpStill
namespace Go.Proofs.Ytgmlpmdfkaadhaa.M
open Go.RowKit Go.Proofs.YtgmlpmdfkaadhaaW.PrintWords Go.Proofs.YtgmlpmdfkaadhaaW.PrintLast Go.Proofs.YtgmlpmdfkaadhaaW.PrintMore Go.Proofs.Ytgmlpmdfkaadhaa.G
theorem TR.src' {B : Nat} {W : World} {A : Option Addr} {n c : Nat} {l : List TxD} (h : TR B W (.slice A n c) l) (hp : 0 < l.length) : ∃ a news, A = some a ∧ Src B W a l news := by
 obtain ⟨A', c', he, _⟩ := h.slice
 injection he with h1 h2 h3
 subst h1; subst h2; subst h3
 exact h.src hp
theorem tr_append_all_m_step {B : Nat} {W : World} {ops : Array Oper} {o : Oper} {a : Act} {Q : Exit → Act → World → Prop} {Kc : Act → World → Prop} (hw : Region.wanted o (yielded ops a.tmps) = true) (s x : Operand) (ho : o.op = .call { callee := .builtin .append, args := #[s, x], argTypes := #[22, 22] })
  {v : Value} {l l' : List TxD} {X : Option Addr} {m cx : Nat} (hs : a.eval s = v) (hx : a.eval x = .slice X m cx) (hm : l'.length = m) (h : TR B W v l) (hn : SrcO B W X l') (hl : l.length + l'.length ≤ 1048576) (hB : B ≤ W.heap.size)
  (hK : ∀ v' w', TR B w' v' (l ++ l') → W.grownBy w' v.ownBlock → (v'.ownBlock = v.ownBlock ∨ ∃ b, v'.ownBlock = some b ∧ W.heap.size ≤ b) → Kc (a.put o.dst v') w') :
  if Region.wanted o (yielded ops a.tmps) = true then Oper.wp Try.prog o a W Kc Q else Kc (a.put o.dst undef) W := by
 subst hm
 exact tr_append_all_step hw s x ho hs hx h hn hl hB hK
theorem takes_is {w : World} {A : Option Addr} {c : Nat} {l : List TxD} (hC : Kd.C G.k32 w A l.length l) (hc : l.length ≤ c) (ha : ∀ t ∈ l, TxP1 t) (h1 : 1 ≤ l.length) (h2 : l.length ≤ 16) :
  Calls Try.prog 38 #[.slice A l.length c] w fun e w' => e = .returned (.bool true) ∧ Below w.heap.size w w' := by
 have hbo := batch_ok (l := l) (r := 0) (n := 0) ha h1 h2 (by decide) (by decide)
 have h4 := refEntry_is (w := w) ⟨1, 0, 0, l⟩ hC hc hbo.1
 dsimp only at h4
 rw [hbo.2.2.1] at h4
 obtain ⟨bs, hbs⟩ : ∃ bs, entB 1 0 0 l = bs := ⟨_, rfl⟩
 have hbl : bs.length ≤ 25000 := by rw [← hbs]; exact hbo.2.2.2
 rw [hbs] at h4
 have H4 := Lib.hid h4
 have q4 : decide (bs.length ≤ 65472) = true := decide_eq_true (by omega)
 have q5 : decide ((bs.length : Int) ≤ 65472) = true := decide_eq_true (by omega)
 clear hC hc ha h1 h2 hbo h4 hbs hbl
 go_enter Try.func38, Try.ntmps38
 go_wp2_with fail
 refine H4.out.mono ?_
 rintro e w2 ⟨v, rfl, hv, hb⟩
 obtain ⟨X, cx, rfl⟩ := Kd.R_slice hv
 have HB := Lib.hid hb
 clear hv hb
 go_wp2_with fail
 go_ret
 exact ⟨rfl, HB.out⟩
def RflushP (B : Nat) (W : World) (q : Nat) (s : SqS) (A : Option Addr) (e : Ending) (w' : World) : Prop :=
 ∃ A' c' E, e = .returned (.tuple #[.agg #[.int .i64 (qFlush s).2.1.f0, .int .i64 (qFlush s).2.1.f1, .int .i64 (qFlush s).2.1.f2, E], .bool (qFlush s).2.2]) ∧ IsRq B w' q (qFlush s).1 A' c' ∧ TR B w' E (qFlush s).2.1.f3 ∧ KeepS (sqS q q A) W w' ∧ NewRow W A A' ∧ ∀ k, E.ownBlock = some k → W.heap.size ≤ k
def RtickP (B : Nat) (W : World) (q : Nat) (s : SqS) (A : Option Addr) (e : Ending) (w' : World) : Prop :=
 ∃ A' c' E, e = .returned (.tuple #[.agg #[.int .i64 (qTick s).2.1.f0, .int .i64 (qTick s).2.1.f1, .int .i64 (qTick s).2.1.f2, E], .bool (qTick s).2.2]) ∧ IsRq B w' q (qTick s).1 A' c' ∧ TR B w' E (qTick s).2.1.f3 ∧ KeepS (sqS q q A) W w' ∧ NewRow W A A' ∧ ∀ k, E.ownBlock = some k → W.heap.size ≤ k
set_option maxHeartbeats 8000000 in
theorem rflush_yes {B : Nat} {W : World} {q : Nat} {s : SqS} {A : Option Addr} {c : Nat} (h : IsRq B W q s A c) (hl : s.l ≠ []) (hn : s.n < 1099511627776) :
  Calls Try.prog 21 #[.pointer (some ⟨q, 0, none⟩)] W fun e w' => RflushP B W q s A e w' := by
 obtain ⟨i0, infoTxn, infoTxnS⟩ := infoTxn0
 obtain ⟨hx, hb⟩ : (W.alloc (.cells #[.int .i64 0, .int .i64 0, .int .i64 0, .slice none 0 0] 36)).heap[W.heap.size]? = some (.cells #[.int .i64 0, .int .i64 0, .int .i64 0, .slice none 0 0] 36) ∧ Below W.heap.size W (W.alloc (.cells #[.int .i64 0, .int .i64 0, .int .i64 0, .slice none 0 0] 36)) := ⟨heap_alloc_new W _, (Below.refl _ W).alloc (Nat.le_refl _) _⟩
 obtain ⟨w0, hw⟩ : ∃ V, W.alloc (.cells #[.int .i64 0, .int .i64 0, .int .i64 0, .slice none 0 0] 36) = V := ⟨_, rfl⟩
 rw [hw] at hx hb
 have HQ := Lib.hid (h.below hb)
 have HX := Lib.hid hx; have HB := Lib.hid hb
 have HLT := Lib.hid (show (∀ k, sqS q q A k → k < W.heap.size) ∧ B ≤ W.heap.size from ⟨h.lt, Nat.le_trans h.bg (Nat.le_of_lt h.glt)⟩)
 have HL := Lib.hid (show 1 ≤ s.l.length ∧ s.l.length ≤ 64 from ⟨List.length_pos_iff.2 hl, h.o.m⟩)
 have HFL := Lib.hid (qFlush_some h.o hl hn)
 have HO := Lib.hid h.o
 have q1 : ((s.l.length : Int) == 0) = false := by have := List.length_pos_iff.2 hl; rw [beq_eq_false_iff_ne]; omega
 have q2 : decide (1099511627776 ≤ s.n) = false := decide_eq_false (by omega)
 have e1 : w0.cell? ⟨q, 1, none⟩ = some (.slice A s.l.length c) := (blk_cell HQ.out.y 1).trans rfl
 have e2 : w0.cell? ⟨q, 2, none⟩ = some (.int .i64 s.n) := (blk_cell HQ.out.y 2).trans rfl
 have HN := Lib.hid hn
 have HQW := Lib.hid h
 clear h hl hn hx hb
 go_enter Try.func21, Try.ntmps21
 go_upto_block 0 with fail
 try rw [hw]
 clear q1 q2 hw
 go_cut [4] (fun v wx => ∃ k : Nat, v = .int .i64 (k : Int) ∧ k = min s.l.length 16 ∧ Below w0.heap.size w0 wx)
 case first =>
  go_wp2_with fail
  go_loopw [4] (fun v wr => ∃ k : Nat, v = .int .i64 (k : Int) ∧ 1 ≤ k ∧ k ≤ s.l.length ∧ k ≤ 16 ∧ Below w0.heap.size w0 wr) (fun v _ => 16 - (intOf v).toNat)
  case atStart => exact ⟨1, rfl, by omega, HL.out.1, by omega, Below.refl _ _⟩
  case round =>
   obtain ⟨k, rfl, hk1, hk2, hk3, hb⟩ := hrel
   have HBr := Lib.hid hb
   have HQr := Lib.hid (HQ.out.below hb)
   have HK := Lib.hid (show 1 ≤ k ∧ k ≤ s.l.length ∧ k ≤ 16 from ⟨hk1, hk2, hk3⟩)
   clear e1 e2
   have e1 : wr.cell? ⟨q, 1, none⟩ = some (.slice A s.l.length c) := (blk_cell HQr.out.y 1).trans rfl
   clear hb
   by_cases ha : k < s.l.length
   ·by_cases hc : k < 16
    ·have q1 : decide (k < s.l.length) = true := decide_eq_true ha
     have q2 : decide (k < 16) = true := decide_eq_true hc
     have q3 : decide ((k : Int) < 16) = true := decide_eq_true (by omega)
     have HKK := Lib.hid (show k + 1 ≤ s.l.length ∧ k + 1 ≤ 16 from ⟨ha, hc⟩)
     have hlen : (s.l.take (k + 1)).length = k + 1 := by rw [List.length_take]; omega
     have hC := (HQr.out.r.take (m := k + 1) ha).reads
     have h4 := takes_is (w := wr) hC.2.2 (by rw [hlen]; exact hC.2.1) (fun t ht => HO.out.a t (List.mem_of_mem_take ht)) (by omega) (by omega)
     rw [hlen] at h4
     have HT := Lib.hid h4
     have HCUT := cut_to (P := Try.prog) 22 32 .i64 Try.underlying22 infoTxn A s.l.length c ((k : Int) + 1) (by omega) (by omega) HQr.out.r.reads.2.1
     rw [show ((k : Int) + 1).toNat = k + 1 by omega] at HCUT
     clear ha hc hlen hC h4 hk1 hk2
     go_wp2_with fail
     refine HT.out.mono ?_
     rintro e w3 ⟨rfl, hb⟩
     have HB3 := Lib.hid (HBr.out.trans (hb.mono HBr.out.size))
     clear hb HCUT
     go_wp2_with fail
     go_roundw
     case rel => exact ⟨k + 1, by go_num, by omega, HKK.out.1, HKK.out.2, HB3.out⟩
     case measure => have := HKK.out; simp [intOf]; omega
    ·have q1 : decide (k < s.l.length) = true := decide_eq_true ha
     have q2 : decide (k < 16) = false := decide_eq_false hc
     have q3 : decide ((k : Int) < 16) = false := decide_eq_false (by omega)
     have HM := Lib.hid (show k = min s.l.length 16 by omega)
     clear ha hc hk1 hk2 hk3
     go_wp2_with fail
     go_meet
     exact ⟨k, rfl, HM.out, HBr.out⟩
   ·have q1 : decide (k < s.l.length) = false := decide_eq_false ha
    have HM := Lib.hid (show k = min s.l.length 16 by omega)
    clear ha hk1 hk2 hk3
    go_wp2_with fail
    go_meet
    exact ⟨k, rfl, HM.out, HBr.out⟩
 obtain ⟨k, rfl, hk, hb⟩ := hcut
 have HWc := Lib.hid (HB.out.trans (hb.mono HB.out.size))
 have HXc := Lib.hid ((hb.block W.heap.size (blk_lt HX.out)).trans HX.out)
 have HK := Lib.hid (show 1 ≤ k ∧ k ≤ s.l.length ∧ k ≤ 16 by have := HL.out; omega)
 have HTK := Lib.hid (show s.l.take 16 = s.l.take k ∧ s.l.drop 16 = s.l.drop k by
  by_cases h16 : s.l.length ≤ 16
  ·rw [List.take_of_length_le h16, List.drop_of_length_le h16, List.take_of_length_le (by omega), List.drop_of_length_le (by omega)]; exact ⟨rfl, rfl⟩
  ·rw [show k = 16 by omega]; exact ⟨rfl, rfl⟩)
 have HQc := Lib.hid (HQW.out.below HWc.out)
 obtain ⟨w1, hw1⟩ : ∃ V, V = wc := ⟨_, rfl⟩
 rw [← hw1] at HWc HXc HQc ⊢
 clear hb hk e1 e2 HQ HX HB hw1
 go_upto_region 7 with fail
 go_cut [6] (fun v wx => ∃ (xb : Nat) (E : Option Addr) (ce : Nat), v = .pointer (some ⟨xb, 0, none⟩) ∧ wx.heap[xb]? = some (.cells #[.int .i64 1, .int .i64 s.r, .int .i64 s.n, .slice E k ce] 36) ∧ TR B wx (.slice E k ce) (s.l.take k) ∧ Below w1.heap.size w1 wx ∧ w1.heap.size ≤ xb ∧ ∀ a, E = some a → w1.heap.size ≤ a.block)
 case first =>
  have hcut := cut_to (P := Try.prog) 22 32 .i64 Try.underlying22 infoTxn A s.l.length c (k : Int) (by omega) (by have := HK.out; omega) HQc.out.r.reads.2.1
  rw [Int.toNat_natCast] at hcut
  have HLK := Lib.hid (show (s.l.take k).length = k by rw [List.length_take]; have := HK.out; omega)
  refine start_ (n := 19) (S := fun w' => w'.cell? ⟨q, 0, none⟩ = some (.int .i64 s.r) ∧ w'.cell? ⟨q, 2, none⟩ = some (.int .i64 s.n) ∧ w'.cell? ⟨q, 1, none⟩ = some (.slice A s.l.length c)) (ds := [18]) #[false, false, false, false, false, false, false, false, false, false, false, false, false, false, false, false, false, false, false] (by kernel_rfl) rfl rfl ⟨(blk_cell (show w1.drew.heap[q]? = _ from HQc.out.y) 0).trans rfl, (blk_cell (show w1.drew.heap[q]? = _ from HQc.out.y) 2).trans rfl, (blk_cell (show w1.drew.heap[q]? = _ from HQc.out.y) 1).trans rfl⟩ (fun hHeld => ?_)
  have HQd := Lib.hid (HQc.out.below (Below.refl _ w1).drew); have HWd := Lib.hid (Below.refl w1.heap.size w1).drew
  obtain ⟨wa, hwa⟩ : ∃ wa, w1.drew = wa := ⟨_, rfl⟩
  rw [hwa] at HQd HWd hHeld ⊢
  clear hwa
  have HTTS := Lib.hid (show SrcO B wa A (s.l.take k) from fun hp => TR.src' (HQd.out.r.take (m := k) HK.out.2.1) hp)
  refine pure_ (i := 0) (N := some 44) (v := ?_) (a' := ?_) #[true, false, false, false, false, false, false, false, false, false, false, false, false, false, false, false, false, false, false] rfl rfl (by kernel_rfl) (fun _ _ _ h => h) (Or.inl ⟨by rfl, ?_⟩) ?_ ?_
  rotate_left
  ·intro w'
   go_simp
   try with_reducible rfl
  rotate_left
  ·simp only [Act.put, sq1, sq2, sq3, i64_w, i32_w]
   rfl
  refine pure_ (i := 1) (N := some 45) (v := ?_) (a' := ?_) #[true, true, false, false, false, false, false, false, false, false, false, false, false, false, false, false, false, false, false] rfl rfl (by kernel_rfl) (fun _ _ _ h => h) (Or.inl ⟨by rfl, ?_⟩) ?_ ?_
  rotate_left
  ·intro w'
   go_simp
   try with_reducible rfl
  rotate_left
  ·simp only [Act.put, sq1, sq2, sq3, i64_w, i32_w]
   rfl
  refine pure_ (i := 2) (N := some 46) (v := ?_) (a' := ?_) #[true, true, true, false, false, false, false, false, false, false, false, false, false, false, false, false, false, false, false] rfl rfl (by kernel_rfl) (fun _ _ _ h => h) (Or.inl ⟨by rfl, ?_⟩) ?_ ?_
  rotate_left
  ·intro w'
   go_simp
   try with_reducible rfl
  rotate_left
  ·simp only [Act.put, sq1, sq2, sq3, i64_w, i32_w]
   rfl
  refine take_ (i := 3) (N := some 47) (v := ?_) (a' := ?_) #[true, true, true, true, false, false, false, false, false, false, false, false, false, false, false, false, false, false, false] rfl rfl (by kernel_rfl) (fun _ _ _ h => h) (Or.inl ⟨by rfl, ?_⟩) hHeld ?_ ?_
  rotate_left
  ·intro w' hS
   obtain ⟨hS, _⟩ := hS
   go_simp
   try with_reducible rfl
  rotate_left
  ·simp only [Act.put, sq1, sq2, sq3, i64_w, i32_w]
   rfl
  refine pure_ (i := 4) (N := some 48) (v := ?_) (a' := ?_) #[true, true, true, true, true, false, false, false, false, false, false, false, false, false, false, false, false, false, false] rfl rfl (by kernel_rfl) (fun _ _ _ h => h) (Or.inl ⟨by rfl, ?_⟩) ?_ ?_
  rotate_left
  ·intro w'
   go_simp
   try with_reducible rfl
  rotate_left
  ·simp only [Act.put, sq1, sq2, sq3, i64_w, i32_w]
   rfl
  refine pure_ (i := 5) (N := some 49) (v := ?_) (a' := ?_) #[true, true, true, true, true, true, false, false, false, false, false, false, false, false, false, false, false, false, false] rfl rfl (by kernel_rfl) (fun _ _ _ h => h) (Or.inl ⟨by rfl, ?_⟩) ?_ ?_
  rotate_left
  ·intro w'
   go_simp
   try with_reducible rfl
  rotate_left
  ·simp only [Act.put, sq1, sq2, sq3, i64_w, i32_w]
   rfl
  refine pure_ (i := 6) (N := some 50) (v := ?_) (a' := ?_) #[true, true, true, true, true, true, true, false, false, false, false, false, false, false, false, false, false, false, false] rfl rfl (by kernel_rfl) (fun _ _ _ h => h) (Or.inl ⟨by rfl, ?_⟩) ?_ ?_
  rotate_left
  ·intro w'
   go_simp
   try with_reducible rfl
  rotate_left
  ·simp only [Act.put, sq1, sq2, sq3, i64_w, i32_w]
   rfl
  refine take_ (i := 7) (N := some 51) (v := ?_) (a' := ?_) #[true, true, true, true, true, true, true, true, false, false, false, false, false, false, false, false, false, false, false] rfl rfl (by kernel_rfl) (fun _ _ _ h => h) (Or.inl ⟨by rfl, ?_⟩) hHeld ?_ ?_
  rotate_left
  ·intro w' hS
   obtain ⟨_, hS, _⟩ := hS
   go_simp
   try with_reducible rfl
  rotate_left
  ·simp only [Act.put, sq1, sq2, sq3, i64_w, i32_w]
   rfl
  refine pure_ (i := 8) (N := some 52) (v := ?_) (a' := ?_) #[true, true, true, true, true, true, true, true, true, false, false, false, false, false, false, false, false, false, false] rfl rfl (by kernel_rfl) (fun _ _ _ h => h) (Or.inl ⟨by rfl, ?_⟩) ?_ ?_
  rotate_left
  ·intro w'
   go_simp
   try with_reducible rfl
  rotate_left
  ·simp only [Act.put, sq1, sq2, sq3, i64_w, i32_w]
   rfl
  refine pure_ (i := 9) (N := some 53) (v := ?_) (a' := ?_) #[true, true, true, true, true, true, true, true, true, true, false, false, false, false, false, false, false, false, false] rfl rfl (by kernel_rfl) (fun _ _ _ h => h) (Or.inl ⟨by rfl, ?_⟩) ?_ ?_
  rotate_left
  ·intro w'
   go_simp
   try with_reducible rfl
  rotate_left
  ·simp only [Act.put, sq1, sq2, sq3, i64_w, i32_w]
   rfl
  refine pure_ (i := 10) (N := some 54) (v := ?_) (a' := ?_) #[true, true, true, true, true, true, true, true, true, true, true, false, false, false, false, false, false, false, false] rfl rfl (by kernel_rfl) (fun _ _ _ h => h) (Or.inl ⟨by rfl, ?_⟩) ?_ ?_
  rotate_left
  ·intro w'
   go_simp
   try with_reducible rfl
  rotate_left
  ·simp only [Act.put, sq1, sq2, sq3, i64_w, i32_w]
   rfl
  refine pure_ (i := 11) (N := some 55) (v := ?_) (a' := ?_) #[true, true, true, true, true, true, true, true, true, true, true, true, false, false, false, false, false, false, false] rfl rfl (by kernel_rfl) (fun _ _ _ h => h) (Or.inl ⟨by rfl, ?_⟩) ?_ ?_
  rotate_left
  ·intro w'
   go_simp
   try with_reducible rfl
  rotate_left
  ·simp only [Act.put, sq1, sq2, sq3, i64_w, i32_w]
   rfl
  refine take_ (i := 12) (N := some 56) (v := ?_) (a' := ?_) #[true, true, true, true, true, true, true, true, true, true, true, true, true, false, false, false, false, false, false] rfl rfl (by kernel_rfl) (fun _ _ _ h => h) (Or.inl ⟨by rfl, ?_⟩) hHeld ?_ ?_
  rotate_left
  ·intro w' hS
   obtain ⟨_, _, hS⟩ := hS
   go_simp
   try with_reducible rfl
  rotate_left
  ·simp only [Act.put, sq1, sq2, sq3, i64_w, i32_w]
   rfl
  refine pure_ (i := 13) (N := some 57) (v := ?_) (a' := ?_) #[true, true, true, true, true, true, true, true, true, true, true, true, true, true, false, false, false, false, false] rfl rfl (by kernel_rfl) (fun _ _ _ h => h) (Or.inl ⟨by rfl, ?_⟩) ?_ ?_
  rotate_left
  ·intro w'
   go_simp
   try with_reducible rfl
  rotate_left
  ·simp only [Act.put, sq1, sq2, sq3, i64_w, i32_w]
   rfl
  refine pure_ (i := 14) (N := some 58) (v := ?_) (a' := ?_) #[true, true, true, true, true, true, true, true, true, true, true, true, true, true, true, false, false, false, false] rfl rfl (by kernel_rfl) (fun _ _ _ h => h) (Or.inl ⟨by rfl, ?_⟩) ?_ ?_
  rotate_left
  ·intro w'
   go_simp
   try with_reducible rfl
  rotate_left
  ·simp only [Act.put, sq1, sq2, sq3, i64_w, i32_w]
   rfl
  clear hcut
  refine two_ (i := 15) (j := 17) (Ni := some 59) (Nj := some 6) #[true, true, true, true, true, true, true, true, true, true, true, true, true, true, true, true, false, false, false] #[true, true, true, true, true, true, true, true, true, true, true, true, true, true, true, false, false, true, false] rfl rfl rfl rfl (by kernel_rfl) (by decide) (by decide) (fun K hK => ?_) (fun K hK => ?_)
  ·skip
   refine tr_append_all_m_step (by rfl) (.tmp 52) (.tmp 58) rfl rfl rfl HLK.out (TR.nil B wa) (HTTS.out) (by have := HLK.out; have := HK.out; simp; omega) (by have := HLT.out.2; have := HWc.out.size; have := HWd.out.size; omega) ?_
   intro v_ w9 hn hg_ hat
   rw [List.nil_append] at hn
   obtain ⟨E, ce, rfl, _⟩ := hn.slice
   have HLE := Lib.hid HLK.out
   have HT9 := Lib.hid hn
   have HB9 := Lib.hid ((Below.refl wa.heap.size wa).grown hg_ (Nat.le_refl _) (fun k hk => by obtain ⟨a, ha, _⟩ := own_iff.1 hk; cases ha))
   have HE9 := Lib.hid (show ∀ a, E = some a → wa.heap.size ≤ a.block from fun a ha => by
    rcases (NewRow.of hat : NewRow wa none E) a ha with ⟨a0, h1, _⟩ | h1
    ·cases h1
    ·exact h1)
   rw [HLE.out] at HT9 ⊢
   clear hn hg_ hat HLE
   refine hK.out _ _ ⟨(blk_cell (HQd.out.below HB9.out).y 0).trans rfl, (blk_cell (HQd.out.below HB9.out).y 2).trans rfl, (blk_cell (HQd.out.below HB9.out).y 1).trans rfl⟩ (fun hHeld => ?_)
   clear hK K
   refine norm_ (a' := ?_) ?_ ?_
   rotate_left
   ·show Act.put _ (some 59) _ = _
    simp only [Act.put, sq1, sq2, sq3, i64_w, i32_w]
    rfl
   refine pure_ (i := 16) (N := some 60) (v := ?_) (a' := ?_) #[true, true, true, true, true, true, true, true, true, true, true, true, true, true, true, true, true, false, false] rfl rfl (by kernel_rfl) (fun _ _ _ h => h) (Or.inl ⟨by rfl, ?_⟩) ?_ ?_
   rotate_left
   ·intro w'
    go_simp
    try with_reducible rfl
   rotate_left
   ·simp only [Act.put, sq1, sq2, sq3, i64_w, i32_w]
    rfl
   refine one_ (i := 17) (N := some 6) #[true, true, true, true, true, true, true, true, true, true, true, true, true, true, true, true, true, true, false] rfl rfl (by kernel_rfl) (by decide) (fun K hK => ?_)
   refine value_ (w1 := ?_) (v := ?_) (by rfl) rfl ?_ ?_
   rotate_left 2
   ·go_simp
    constructor <;> rfl
   have HBz := Lib.hid ((Below.refl w9.heap.size w9).alloc (Nat.le_refl _) (.cells #[.int .i64 0, .int .i64 0, .int .i64 0, .slice none 0 0] 36))
   refine hK.out _ _ ⟨(blk_cell ((HQd.out.below HB9.out).below HBz.out).y 0).trans rfl, (blk_cell ((HQd.out.below HB9.out).below HBz.out).y 2).trans rfl, (blk_cell ((HQd.out.below HB9.out).below HBz.out).y 1).trans rfl⟩ (fun hHeld => ?_)
   clear hK K
   refine norm_ (a' := ?_) ?_ ?_
   rotate_left
   ·show Act.put _ (some 6) _ = _
    simp only [Act.put, sq1, sq2, sq3, i64_w, i32_w]
    rfl
   refine last_ (i := 18) (N := none) #[true, true, true, true, true, true, true, true, true, true, true, true, true, true, true, true, true, true, true] rfl rfl (by kernel_rfl) (by decide) (fun K hK => ?_)
   refine skip_ (w1 := ?_) (by rfl) rfl ?_ ?_
   rotate_left
   ·go_simp
    rfl
   refine hK.out _ _ ?_
   clear hK K
   refine done_ (by kernel_rfl) ?_
   have HB10 := Lib.hid ((Below.refl w9.heap.size w9).alloc (Nat.le_refl _) (.cells #[.int .i64 1, .int .i64 s.r, .int .i64 s.n, .slice E k ce] 36))
   go_wp2_with fail
   go_meet
   exact ⟨w9.heap.size, E, ce, rfl, heap_alloc_new w9 _, HT9.out.below HB10.out, HWd.out.trans ((HB9.out.trans (HB10.out.mono HB9.out.size)).mono HWd.out.size), by have := HB9.out.size; have := HWd.out.size; omega, fun a ha => by have := HE9.out a ha; have := HWd.out.size; omega⟩
  ·skip
   refine value_ (w1 := ?_) (v := ?_) (by rfl) rfl ?_ ?_
   rotate_left 2
   ·go_simp
    constructor <;> rfl
   have HBz := Lib.hid ((Below.refl wa.heap.size wa).alloc (Nat.le_refl _) (.cells #[.int .i64 0, .int .i64 0, .int .i64 0, .slice none 0 0] 36))
   refine hK.out _ _ ⟨(blk_cell (HQd.out.below HBz.out).y 0).trans rfl, (blk_cell (HQd.out.below HBz.out).y 2).trans rfl, (blk_cell (HQd.out.below HBz.out).y 1).trans rfl⟩ (fun hHeld => ?_)
   clear hK K
   refine norm_ (a' := ?_) ?_ ?_
   rotate_left
   ·show Act.put _ (some 6) _ = _
    simp only [Act.put, sq1, sq2, sq3, i64_w, i32_w]
    rfl
   have HX8 := Lib.hid (heap_alloc_new wa (.cells #[.int .i64 0, .int .i64 0, .int .i64 0, .slice none 0 0] 36))
   have HTTS8 := Lib.hid (HTTS.out.below HBz.out)
   obtain ⟨xb, hxb⟩ : ∃ xb, wa.heap.size = xb := ⟨_, rfl⟩
   have HXB := Lib.hid (show w1.heap.size ≤ xb by have := HWd.out.size; omega)
   obtain ⟨w8, hw8⟩ : ∃ V, wa.alloc (.cells #[.int .i64 0, .int .i64 0, .int .i64 0, .slice none 0 0] 36) = V := ⟨_, rfl⟩
   rw [hw8] at HBz HX8 HTTS8 hHeld ⊢
   rw [hxb] at HX8 ⊢
   clear hw8 hxb
   refine one_ (i := 15) (N := some 59) #[true, true, true, true, true, true, true, true, true, true, true, true, true, true, true, true, false, true, false] rfl rfl (by kernel_rfl) (by decide) (fun K hK => ?_)
   refine tr_append_all_m_step (by rfl) (.tmp 52) (.tmp 58) rfl rfl rfl HLK.out (TR.nil B w8) (HTTS8.out) (by have := HLK.out; have := HK.out; simp; omega) (by have := HLT.out.2; have := HWc.out.size; have := HWd.out.size; have := HBz.out.size; omega) ?_
   intro v_ w9 hn hg_ hat
   rw [List.nil_append] at hn
   obtain ⟨E, ce, rfl, _⟩ := hn.slice
   have HLE := Lib.hid HLK.out
   have HT9 := Lib.hid hn
   have HB9 := Lib.hid ((Below.refl w8.heap.size w8).grown hg_ (Nat.le_refl _) (fun k hk => by obtain ⟨a, ha, _⟩ := own_iff.1 hk; cases ha))
   have HE9 := Lib.hid (show ∀ a, E = some a → w8.heap.size ≤ a.block from fun a ha => by
    rcases (NewRow.of hat : NewRow w8 none E) a ha with ⟨a0, h1, _⟩ | h1
    ·cases h1
    ·exact h1)
   rw [HLE.out] at HT9 ⊢
   clear hn hg_ hat HLE
   have HX9 := Lib.hid ((HB9.out.block xb (blk_lt HX8.out)).trans HX8.out)
   refine hK.out _ _ ⟨(blk_cell ((HQd.out.below HBz.out).below HB9.out).y 0).trans rfl, (blk_cell ((HQd.out.below HBz.out).below HB9.out).y 2).trans rfl, (blk_cell ((HQd.out.below HBz.out).below HB9.out).y 1).trans rfl⟩ (fun hHeld => ?_)
   clear hK K
   refine norm_ (a' := ?_) ?_ ?_
   rotate_left
   ·show Act.put _ (some 59) _ = _
    simp only [Act.put, sq1, sq2, sq3, i64_w, i32_w]
    rfl
   refine pure_ (i := 16) (N := some 60) (v := ?_) (a' := ?_) #[true, true, true, true, true, true, true, true, true, true, true, true, true, true, true, true, true, true, false] rfl rfl (by kernel_rfl) (fun _ _ _ h => h) (Or.inl ⟨by rfl, ?_⟩) ?_ ?_
   rotate_left
   ·intro w'
    go_simp
    try with_reducible rfl
   rotate_left
   ·simp only [Act.put, sq1, sq2, sq3, i64_w, i32_w]
    rfl
   have b0 : w9.cell? ⟨xb, 0, none⟩ = some (.int .i64 0) := (blk_cell HX9.out 0).trans rfl
   have z0 : w9.frozen? ⟨xb, 0, none⟩ = false := blk_frozen HX9.out 0
   have b1 : w9.cell? ⟨xb, 1, none⟩ = some (.int .i64 0) := (blk_cell HX9.out 1).trans rfl
   have z1 : w9.frozen? ⟨xb, 1, none⟩ = false := blk_frozen HX9.out 1
   have b2 : w9.cell? ⟨xb, 2, none⟩ = some (.int .i64 0) := (blk_cell HX9.out 2).trans rfl
   have z2 : w9.frozen? ⟨xb, 2, none⟩ = false := blk_frozen HX9.out 2
   have b3 : w9.cell? ⟨xb, 3, none⟩ = some (.slice none 0 0) := (blk_cell HX9.out 3).trans rfl
   have z3 : w9.frozen? ⟨xb, 3, none⟩ = false := blk_frozen HX9.out 3
   refine last_ (i := 18) (N := none) #[true, true, true, true, true, true, true, true, true, true, true, true, true, true, true, true, true, true, true] rfl rfl (by kernel_rfl) (by decide) (fun K hK => ?_)
   refine skip_ (w1 := ?_) (by rfl) rfl ?_ ?_
   rotate_left
   ·go_simp
    rfl
   refine hK.out _ _ ?_
   clear hK K
   refine done_ (by kernel_rfl) ?_
   have hks := ((((KeepS.refl (fun i => i = xb) w9).set (p := ⟨xb, 0, none⟩) (.inl rfl) (.int .i64 1)).set (p := ⟨xb, 1, none⟩) (.inl rfl) (.int .i64 s.r)).set (p := ⟨xb, 2, none⟩) (.inl rfl) (.int .i64 s.n)).set (p := ⟨xb, 3, none⟩) (.inl rfl) (.slice E k ce)
   have hbx : ((((w9.setCell ⟨xb, 0, none⟩ (.int .i64 1)).setCell ⟨xb, 1, none⟩ (.int .i64 s.r)).setCell ⟨xb, 2, none⟩ (.int .i64 s.n)).setCell ⟨xb, 3, none⟩ (.slice E k ce)).heap[xb]? = some (.cells #[.int .i64 1, .int .i64 s.r, .int .i64 s.n, .slice E k ce] 36) := (blk_put (blk_put (blk_put (blk_put HX9.out 0 (.int .i64 1) rfl) 1 (.int .i64 s.r) rfl) 2 (.int .i64 s.n) rfl) 3 (.slice E k ce) rfl)
   have HKS := Lib.hid hks; have HBX := Lib.hid hbx
   have HBB := Lib.hid (HWd.out.trans ((HBz.out.trans (HB9.out.mono HBz.out.size)).mono HWd.out.size))
   have hfin := (HT9.out.keep HKS.out (fun i e => by subst e; exact not_inn (by have := HLT.out.2; have := HWc.out.size; have := HXB.out; omega) HX9.out en_not) (fun i hi e => by obtain ⟨a, ha, e2⟩ := own_iff.1 hi; have := HE9.out a ha; have := blk_lt HX8.out; omega))
   have HFIN := Lib.hid hfin
   clear hks hbx hfin b0 b1 b2 b3 z0 z1 z2 z3
   go_wp2_with fail
   go_meet
   exact ⟨xb, E, ce, rfl, HBX.out, HFIN.out, HBB.out.trans (HKS.out.below HBB.out.size (fun i e => by have := HXB.out; omega)), HXB.out, fun a ha => by have := HE9.out a ha; have := HBz.out.size; have := HWd.out.size; omega⟩
 obtain ⟨xb, E, ce, rfl, hX, hT, hb, hxb, hE⟩ := hcut
 have HX2 := Lib.hid hX; have HT2 := Lib.hid hT; have HXB := Lib.hid hxb; have HE2 := Lib.hid hE
 have HQ2 := Lib.hid (HQc.out.below hb); have HR2 := Lib.hid ((hb.block W.heap.size (blk_lt HXc.out)).trans HXc.out); have HW2 := Lib.hid (HWc.out.trans (hb.mono HWc.out.size))
 have HRB := Lib.hid (show W.heap.size < w1.heap.size from blk_lt HXc.out)
 obtain ⟨w2, hw2⟩ : ∃ V, V = wc := ⟨_, rfl⟩
 rw [← hw2] at HX2 HT2 HQ2 HR2 HW2 ⊢
 clear hX hT hb hxb hE HQc HXc HWc hw2
 obtain ⟨A1, hA1⟩ : ∃ A1, (if c = k then A else A.map (·.add (k * 6))) = A1 := ⟨_, rfl⟩
 have HNR := Lib.hid (show ∀ a, A1 = some a → ∃ a0, A = some a0 ∧ a0.block = a.block from fun a ha => by
  rw [← hA1] at ha
  split at ha
  ·exact ⟨a, ha, rfl⟩
  ·cases hA : A with
   | none => rw [hA] at ha; cases ha
   | some a0 =>
    rw [hA, Option.map_some] at ha
    injection ha with ha
    exact ⟨a0, rfl, by rw [← ha]; simp [Addr.add]; split <;> rfl⟩)
 have hcut := cut_from (P := Try.prog) 22 32 .i64 Try.underlying22 infoTxn 6 infoTxnS A s.l.length c (k : Int) (by omega) (by have := HK.out; omega)
 rw [Int.toNat_natCast, hA1] at hcut
 have HD := Lib.hid (HQ2.out.r.drop HK.out.2.1)
 rw [hA1] at HD
 have HLD := Lib.hid (show (s.l.drop k).length = s.l.length - k from List.length_drop)
 have y1 : w2.cell? ⟨q, 1, none⟩ = some (.slice A s.l.length c) := (blk_cell HQ2.out.y 1).trans rfl
 have y1z : w2.frozen? ⟨q, 1, none⟩ = false := blk_frozen HQ2.out.y 1
 have y2 : w2.cell? ⟨q, 2, none⟩ = some (.int .i64 s.n) := (blk_cell HQ2.out.y 2).trans rfl
 have y2z : w2.frozen? ⟨q, 2, none⟩ = false := blk_frozen HQ2.out.y 2
 have n1 : 0 ≤ s.n := HO.out.n.1
 have n2 : s.n < 1099511627776 := HN.out
 clear hA1
 go_upto_region 10 with fail
 have HKG := Lib.hid (((KeepS.refl (fun i => i = q) w2).set (p := ⟨q, 1, none⟩) (.inl rfl) (.slice A1 (s.l.length - k) (c - k))).set (p := ⟨q, 2, none⟩) (.inl rfl) (.int .i64 (s.n + 1)))
 have HNG := Lib.hid (show ∀ i, i = q → ¬ Inn B w2 i from fun i e => by subst e; exact not_inn HQ2.out.bg HQ2.out.y rq_not)
 have HY3 := Lib.hid (show ((w2.setCell ⟨q, 1, none⟩ (.slice A1 (s.l.length - k) (c - k))).setCell ⟨q, 2, none⟩ (.int .i64 (s.n + 1))).heap[q]? = some (.cells #[.int .i64 s.r, .slice A1 (s.l.length - k) (c - k), .int .i64 (s.n + 1), .int .i64 s.t] 62) from blk_put (blk_put HQ2.out.y 1 _ rfl) 2 _ rfl)
 have HQL := Lib.hid (show q < W.heap.size from HLT.out.1 q (.inl rfl))
 have HX3 := Lib.hid ((HKG.out.block xb (blk_lt HX2.out) (by have := HQL.out; have := HRB.out; have := HXB.out; omega)).trans HX2.out)
 have HR3 := Lib.hid ((HKG.out.block W.heap.size (blk_lt HR2.out) (by have := HQL.out; omega)).trans HR2.out)
 have HT3 := Lib.hid (HT2.out.keep HKG.out HNG.out (fun i hi e => by obtain ⟨a, ha, e2⟩ := own_iff.1 hi; have := HE2.out a ha; have := HQL.out; have := HRB.out; omega))
 have HD3 := Lib.hid (HD.out.keep HKG.out HNG.out (fun i hi e => by obtain ⟨a, ha, e2⟩ := own_iff.1 hi; obtain ⟨a0, h1, h2⟩ := HNR.out a ha; exact HQ2.out.own_ne h1 (h2.trans (e2.trans e))))
 have HW3 := Lib.hid ((KeepS.of_below (sqS q q A) HW2.out).trans (HKG.out.mono (fun i e => .inl e)))
 obtain ⟨w3, hw3⟩ : ∃ V, (w2.setCell ⟨q, 1, none⟩ (.slice A1 (s.l.length - k) (c - k))).setCell ⟨q, 2, none⟩ (.int .i64 (s.n + 1)) = V := ⟨_, rfl⟩
 rw [hw3] at HY3 HX3 HR3 HT3 HD3 HW3 ⊢
 clear hw3 y1 y1z y2 y2z n1 n2 hcut HKG HNG HX2 HT2 HR2 HW2 HD
 have b0 : w3.cell? ⟨xb, 0, none⟩ = some (.int .i64 1) := (blk_cell HX3.out 0).trans rfl
 have b1 : w3.cell? ⟨xb, 1, none⟩ = some (.int .i64 s.r) := (blk_cell HX3.out 1).trans rfl
 have b2 : w3.cell? ⟨xb, 2, none⟩ = some (.int .i64 s.n) := (blk_cell HX3.out 2).trans rfl
 have b3 : w3.cell? ⟨xb, 3, none⟩ = some (.slice E k ce) := (blk_cell HX3.out 3).trans rfl
 have x0 : w3.cell? ⟨W.heap.size, 0, none⟩ = some (.int .i64 0) := (blk_cell HR3.out 0).trans rfl
 have z0 : w3.frozen? ⟨W.heap.size, 0, none⟩ = false := blk_frozen HR3.out 0
 have x1 : w3.cell? ⟨W.heap.size, 1, none⟩ = some (.int .i64 0) := (blk_cell HR3.out 1).trans rfl
 have z1 : w3.frozen? ⟨W.heap.size, 1, none⟩ = false := blk_frozen HR3.out 1
 have x2 : w3.cell? ⟨W.heap.size, 2, none⟩ = some (.int .i64 0) := (blk_cell HR3.out 2).trans rfl
 have z2 : w3.frozen? ⟨W.heap.size, 2, none⟩ = false := blk_frozen HR3.out 2
 have x3 : w3.cell? ⟨W.heap.size, 3, none⟩ = some (.slice none 0 0) := (blk_cell HR3.out 3).trans rfl
 have z3 : w3.frozen? ⟨W.heap.size, 3, none⟩ = false := blk_frozen HR3.out 3
 go_wp2_with fail
 refine bodyPost_ret (v := .tuple #[.agg #[.int .i64 1, .int .i64 s.r, .int .i64 s.n, .slice E k ce], .bool true]) ?_ rfl ?_
 ·rw [results_cell_tmp rfl]
  go_simp
 ·have HKX := ((((KeepS.refl (fun i => i = W.heap.size) w3).set (p := ⟨W.heap.size, 0, none⟩) (.inl rfl) (.int .i64 1)).set (p := ⟨W.heap.size, 1, none⟩) (.inl rfl) (.int .i64 s.r)).set (p := ⟨W.heap.size, 2, none⟩) (.inl rfl) (.int .i64 s.n)).set (p := ⟨W.heap.size, 3, none⟩) (.inl rfl) (.slice E k ce)
  have hlr : (s.l.drop 16).length = s.l.length - k := by rw [HTK.out.2]; exact HLD.out
  have hni : ∀ i, i = W.heap.size → ¬ Inn B w3 i := fun i e => by subst e; exact not_inn HLT.out.2 HR3.out en_not
  refine ⟨A1, c - k, .slice E k ce, by rw [HFL.out], ?_, ?_, ((((HW3.out.set (p := ⟨W.heap.size, 0, none⟩) (.inr (Nat.le_refl _)) (.int .i64 1)).set (p := ⟨W.heap.size, 1, none⟩) (.inr (Nat.le_refl _)) (.int .i64 s.r)).set (p := ⟨W.heap.size, 2, none⟩) (.inr (Nat.le_refl _)) (.int .i64 s.n)).set (p := ⟨W.heap.size, 3, none⟩) (.inr (Nat.le_refl _)) (.slice E k ce)), fun a ha => .inl (HNR.out a ha), fun i hi => by obtain ⟨a, ha, e2⟩ := own_iff.1 hi; have := HE2.out a ha; have := HRB.out; omega⟩
  ·rw [HFL.out]
   refine ⟨?_, ?_, ?_, HQ2.out.bg⟩
   ·show _ = some (Obj.cells #[.int .i64 s.r, .slice A1 (s.l.drop 16).length (c - k), .int .i64 (s.n + 1), .int .i64 s.t] _ _)
    rw [hlr]
    exact (HKX.block q (blk_lt HY3.out) (by have := HQL.out; omega)).trans HY3.out
   ·show TR B _ (.slice A1 (s.l.drop 16).length (c - k)) (s.l.drop 16)
    rw [hlr, HTK.out.2]
    exact HD3.out.keep HKX hni (fun i hi e => by obtain ⟨a, ha, e2⟩ := own_iff.1 hi; obtain ⟨a0, h1, h2⟩ := HNR.out a ha; have := HLT.out.1 a0.block (.inr (.inr ⟨a0, h1, rfl⟩)); omega)
   ·have := HO.out.flush
    rw [HFL.out] at this
    exact this
  ·rw [HFL.out]
   show TR B _ (.slice E k ce) (s.l.take 16)
   rw [HTK.out.1]
   exact HT3.out.keep HKX hni (fun i hi e => by obtain ⟨a, ha, e2⟩ := own_iff.1 hi; have := HE2.out a ha; have := HRB.out; omega)
end Go.Proofs.Ytgmlpmdfkaadhaa.M
end

section
/- The reference's Flush and Tick, whatever waits. -/
attribute [local irreducible] Go.wpStill
namespace Go.Proofs.Ytgmlpmdfkaadhaa.M
open Go.RowKit Go.Proofs.YtgmlpmdfkaadhaaW.PrintWords Go.Proofs.YtgmlpmdfkaadhaaW.PrintLast Go.Proofs.YtgmlpmdfkaadhaaW.PrintMore Go.Proofs.Ytgmlpmdfkaadhaa.G
theorem rflush_nob {B : Nat} {W : World} {q : Nat} {s : SqS} {A : Option Addr} {c : Nat} (h : IsRq B W q s A c) (hl : s.l = [] ∨ 1099511627776 ≤ s.n) :
  Calls Try.prog 21 #[.pointer (some ⟨q, 0, none⟩)] W fun e w' => e = .returned (.tuple #[.agg #[.int .i64 0, .int .i64 0, .int .i64 0, .slice none 0 0], .bool false]) ∧ Below W.heap.size W w' := by
 have hb := (Below.refl W.heap.size W).alloc (Nat.le_refl _) (.cells #[.int .i64 0, .int .i64 0, .int .i64 0, .slice none 0 0] 36)
 have HB := Lib.hid hb
 have e1 : (W.alloc (.cells #[.int .i64 0, .int .i64 0, .int .i64 0, .slice none 0 0] 36)).cell? ⟨q, 1, none⟩ = some (.slice A s.l.length c) := (blk_cell (h.below hb).y 1).trans rfl
 have e2 : (W.alloc (.cells #[.int .i64 0, .int .i64 0, .int .i64 0, .slice none 0 0] 36)).cell? ⟨q, 2, none⟩ = some (.int .i64 s.n) := (blk_cell (h.below hb).y 2).trans rfl
 obtain ⟨w0, hw⟩ : ∃ V, W.alloc (.cells #[.int .i64 0, .int .i64 0, .int .i64 0, .slice none 0 0] 36) = V := ⟨_, rfl⟩
 have HX := Lib.hid (heap_alloc_new W (.cells #[.int .i64 0, .int .i64 0, .int .i64 0, .slice none 0 0] 36))
 rw [hw] at e1 e2 HB HX
 by_cases h0 : s.l = []
 ·have q1 : ((s.l.length : Int) == 0) = true := by rw [h0]; rfl
  clear h hl hb h0
  go_enter Try.func21, Try.ntmps21
  go_upto_region 2 with fail
  try rw [hw]
  have x0 : w0.cell? ⟨W.heap.size, 0, none⟩ = some (.int .i64 0) := (blk_cell HX.out 0).trans rfl
  have x1 : w0.cell? ⟨W.heap.size, 1, none⟩ = some (.int .i64 0) := (blk_cell HX.out 1).trans rfl
  have x2 : w0.cell? ⟨W.heap.size, 2, none⟩ = some (.int .i64 0) := (blk_cell HX.out 2).trans rfl
  have x3 : w0.cell? ⟨W.heap.size, 3, none⟩ = some (.slice none 0 0) := (blk_cell HX.out 3).trans rfl
  obtain ⟨y0, y1, y2, y3⟩ := bf4 HX.out
  clear hw
  go_wp2_with fail
  refine bodyPost_ret (v := .tuple #[.agg #[.int .i64 0, .int .i64 0, .int .i64 0, .slice none 0 0], .bool false]) ?_ rfl ⟨rfl, (((HB.out.setCell (p := ⟨W.heap.size, 0, none⟩) (Nat.le_refl _) _).setCell (p := ⟨W.heap.size, 1, none⟩) (Nat.le_refl _) _).setCell (p := ⟨W.heap.size, 2, none⟩) (Nat.le_refl _) _).setCell (p := ⟨W.heap.size, 3, none⟩) (Nat.le_refl _) _⟩
  rw [results_cell_tmp rfl]
  go_simp
 ·have q1 : ((s.l.length : Int) == 0) = false := by have := List.length_pos_iff.2 h0; rw [beq_eq_false_iff_ne]; omega
  have q2 : decide (1099511627776 ≤ s.n) = true := decide_eq_true (by rcases hl with h | h; exact absurd h h0; exact h)
  clear h hl hb h0
  go_enter Try.func21, Try.ntmps21
  go_upto_region 2 with fail
  try rw [hw]
  have x0 : w0.cell? ⟨W.heap.size, 0, none⟩ = some (.int .i64 0) := (blk_cell HX.out 0).trans rfl
  have x1 : w0.cell? ⟨W.heap.size, 1, none⟩ = some (.int .i64 0) := (blk_cell HX.out 1).trans rfl
  have x2 : w0.cell? ⟨W.heap.size, 2, none⟩ = some (.int .i64 0) := (blk_cell HX.out 2).trans rfl
  have x3 : w0.cell? ⟨W.heap.size, 3, none⟩ = some (.slice none 0 0) := (blk_cell HX.out 3).trans rfl
  obtain ⟨y0, y1, y2, y3⟩ := bf4 HX.out
  clear hw
  go_wp2_with fail
  refine bodyPost_ret (v := .tuple #[.agg #[.int .i64 0, .int .i64 0, .int .i64 0, .slice none 0 0], .bool false]) ?_ rfl ⟨rfl, (((HB.out.setCell (p := ⟨W.heap.size, 0, none⟩) (Nat.le_refl _) _).setCell (p := ⟨W.heap.size, 1, none⟩) (Nat.le_refl _) _).setCell (p := ⟨W.heap.size, 2, none⟩) (Nat.le_refl _) _).setCell (p := ⟨W.heap.size, 3, none⟩) (Nat.le_refl _) _⟩
  rw [results_cell_tmp rfl]
  go_simp
theorem rflush_is {B : Nat} {W : World} {q : Nat} {s : SqS} {A : Option Addr} {c : Nat} (h : IsRq B W q s A c) :
  Calls Try.prog 21 #[.pointer (some ⟨q, 0, none⟩)] W fun e w' => RflushP B W q s A e w' := by
 by_cases hl : s.l = [] ∨ 1099511627776 ≤ s.n
 ·refine (rflush_nob h hl).mono ?_
  rintro e w' ⟨rfl, hb⟩
  have e1 : qFlush s = (s, zE, false) := by unfold qFlush; rw [if_pos hl]
  exact ⟨A, c, .slice none 0 0, by rw [e1]; rfl, by rw [e1]; exact h.below hb, by rw [e1]; exact TR.nil _ _, KeepS.of_below _ hb, NewRow.refl _ _, fun k hk => by simp [Value.ownBlock] at hk⟩
 ·exact rflush_yes h (fun e => hl (.inl e)) (by have := fun e => hl (.inr e); omega)
theorem IsRq.setT {B : Nat} {W : World} {q : Nat} {s : SqS} {A : Option Addr} {c : Nat} (h : IsRq B W q s A c) (x : Int) (hx : 0 ≤ x ∧ x < 4) (y : Value) : IsRq B ((W.setCell ⟨q, 3, none⟩ y).setCell ⟨q, 3, none⟩ (.int .i64 x)) q { s with t := x } A c := by
 have hk := ((KeepS.refl (fun i => i = q) W).set (p := ⟨q, 3, none⟩) (.inl rfl) y).set (p := ⟨q, 3, none⟩) (.inl rfl) (.int .i64 x)
 have hni : ∀ i, i = q → ¬ Inn B W i := fun i e => by subst e; exact not_inn h.bg h.y rq_not
 refine ⟨?_, h.r.keep hk hni (fun k hk e => by obtain ⟨a, ha, e2⟩ := own_iff.1 hk; exact h.own_ne ha (e2.trans e)), ⟨h.o.r, h.o.n, hx, h.o.m, h.o.a, h.o.u⟩, h.bg⟩
 exact blk_put (blk_put h.y 3 _ rfl) 3 _ rfl
theorem IsRq.setT1 {B : Nat} {W : World} {q : Nat} {s : SqS} {A : Option Addr} {c : Nat} (h : IsRq B W q s A c) (x : Int) (hx : 0 ≤ x ∧ x < 4) : IsRq B (W.setCell ⟨q, 3, none⟩ (.int .i64 x)) q { s with t := x } A c := by
 have hk := (KeepS.refl (fun i => i = q) W).set (p := ⟨q, 3, none⟩) (.inl rfl) (.int .i64 x)
 have hni : ∀ i, i = q → ¬ Inn B W i := fun i e => by subst e; exact not_inn h.bg h.y rq_not
 refine ⟨?_, h.r.keep hk hni (fun k hk e => by obtain ⟨a, ha, e2⟩ := own_iff.1 hk; exact h.own_ne ha (e2.trans e)), ⟨h.o.r, h.o.n, hx, h.o.m, h.o.a, h.o.u⟩, h.bg⟩
 exact blk_put h.y 3 _ rfl
set_option maxHeartbeats 2000000 in
theorem rtick_is {B : Nat} {W : World} {q : Nat} {s : SqS} {A : Option Addr} {c : Nat} (h : IsRq B W q s A c) :
  Calls Try.prog 23 #[.pointer (some ⟨q, 0, none⟩)] W fun e w' => RtickP B W q s A e w' := by
 have hb := (Below.refl W.heap.size W).alloc (Nat.le_refl _) (.cells #[.int .i64 0, .int .i64 0, .int .i64 0, .slice none 0 0] 36)
 have HX := Lib.hid (heap_alloc_new W (.cells #[.int .i64 0, .int .i64 0, .int .i64 0, .slice none 0 0] 36))
 have HGX := Lib.hid (show q ≠ W.heap.size from fun e => by have := h.glt; omega)
 have HLT := Lib.hid (show (∀ k, sqS q q A k → k < W.heap.size) ∧ B ≤ W.heap.size from ⟨h.lt, Nat.le_trans h.bg (Nat.le_of_lt h.glt)⟩)
 obtain ⟨w0, hw⟩ : ∃ V, W.alloc (.cells #[.int .i64 0, .int .i64 0, .int .i64 0, .slice none 0 0] 36) = V := ⟨_, rfl⟩
 rw [hw] at hb HX
 have HQ := Lib.hid (h.below hb)
 have HB := Lib.hid hb
 have e3 : w0.cell? ⟨q, 3, none⟩ = some (.int .i64 s.t) := (blk_cell (h.below hb).y 3).trans rfl
 have z3 : w0.frozen? ⟨q, 3, none⟩ = false := blk_frozen (h.below hb).y 3
 have HO := Lib.hid h.o
 clear h hb
 by_cases ht : s.t = 3
 ·have HR := Lib.hid (show qTick s = qFlush { s with t := 0 } by unfold qTick; rw [if_pos ht])
  rw [ht] at e3
  clear ht
  go_enter Try.func23, Try.ntmps23
  go_upto_region 5 with fail
  try rw [hw]
  have HQ1 := Lib.hid (HQ.out.setT 0 (by decide) (.int .i64 4))
  have HX1 := Lib.hid ((Below.heap_setCell (w0.setCell ⟨q, 3, none⟩ (.int .i64 4)) ⟨q, 3, none⟩ (.int .i64 0) W.heap.size (fun e => HGX.out e.symm)).trans ((Below.heap_setCell w0 ⟨q, 3, none⟩ (.int .i64 4) W.heap.size (fun e => HGX.out e.symm)).trans HX.out))
  have HK1 := Lib.hid (((KeepS.of_below (sqS q q A) HB.out).set (p := ⟨q, 3, none⟩) (.inl (.inl rfl)) (.int .i64 4)).set (p := ⟨q, 3, none⟩) (.inl (.inl rfl)) (.int .i64 0))
  obtain ⟨w1, hw1⟩ : ∃ V, (w0.setCell ⟨q, 3, none⟩ (.int .i64 4)).setCell ⟨q, 3, none⟩ (.int .i64 0) = V := ⟨_, rfl⟩
  rw [hw1] at HQ1 HX1 HK1 ⊢
  clear hw hw1 e3 z3 HQ HX
  go_wp2_with fail
  refine (rflush_is HQ1.out).mono ?_
  rintro e w2 ⟨A', c', E, rfl, hQ, hT, hK, hN, hE⟩
  have HQ2 := Lib.hid hQ; have HT2 := Lib.hid hT; have HK2 := Lib.hid hK; have HN2 := Lib.hid hN; have HE2 := Lib.hid hE
  have HX2 := Lib.hid ((hK.block W.heap.size (blk_lt HX1.out) (fun e => by have := HLT.out.1 _ e; omega)).trans HX1.out)
  obtain ⟨E3, Ec, rfl, _⟩ := hT.slice
  obtain ⟨r, hr⟩ : ∃ r, qFlush { s with t := 0 } = r := ⟨_, rfl⟩
  rw [hr] at HQ2 HT2 HE2 HR ⊢
  have HS1 := Lib.hid (blk_lt HX1.out)
  clear hQ hT hK hN hE HQ1 HX1 hr
  obtain ⟨s2, ⟨f0, f1, f2, f3⟩, is⟩ := r
  have x0 : w2.cell? ⟨W.heap.size, 0, none⟩ = some (.int .i64 0) := (blk_cell HX2.out 0).trans rfl
  have x1 : w2.cell? ⟨W.heap.size, 1, none⟩ = some (.int .i64 0) := (blk_cell HX2.out 1).trans rfl
  have x2 : w2.cell? ⟨W.heap.size, 2, none⟩ = some (.int .i64 0) := (blk_cell HX2.out 2).trans rfl
  have x3 : w2.cell? ⟨W.heap.size, 3, none⟩ = some (.slice none 0 0) := (blk_cell HX2.out 3).trans rfl
  obtain ⟨y0, y1, y2, y3⟩ := bf4 HX2.out
  go_wp2_with fail
  refine bodyPost_ret (v := .tuple #[.agg #[.int .i64 f0, .int .i64 f1, .int .i64 f2, .slice E3 f3.length Ec], .bool is]) ?_ rfl ?_
  ·rw [results_cell_tmp rfl]
   go_simp
  ·have HKX := ((((KeepS.refl (fun i => i = W.heap.size) w2).set (p := ⟨W.heap.size, 0, none⟩) (.inl rfl) (.int .i64 f0)).set (p := ⟨W.heap.size, 1, none⟩) (.inl rfl) (.int .i64 f1)).set (p := ⟨W.heap.size, 2, none⟩) (.inl rfl) (.int .i64 f2)).set (p := ⟨W.heap.size, 3, none⟩) (.inl rfl) (.slice E3 f3.length Ec)
   have hni : ∀ i, i = W.heap.size → ¬ Inn B w2 i := fun i e => by subst e; exact not_inn HLT.out.2 HX2.out en_not
   have hq : ∀ k, sqS q q A' k → ¬ k = W.heap.size := by
    rintro k (rfl | rfl | ⟨a, ha, rfl⟩) e
    ·exact HGX.out e
    ·exact HGX.out e
    ·rcases HN2.out a ha with ⟨a0, h1, h2⟩ | h1
     ·have := HLT.out.1 _ (.inr (.inr ⟨a0, h1, h2⟩)); omega
     ·have := HS1.out; omega
   refine ⟨A', c', .slice E3 f3.length Ec, by rw [HR.out], ?_, ?_, ?_, ?_, ?_⟩
   ·rw [HR.out]
    exact HQ2.out.keep HKX hni hq
   ·rw [HR.out]
    exact HT2.out.keep HKX hni (fun k hk e => by have := HE2.out k hk; have := HS1.out; omega)
   ·exact ((((HK1.out.trans HK2.out).set (p := ⟨W.heap.size, 0, none⟩) (.inr (Nat.le_refl _)) (.int .i64 f0)).set (p := ⟨W.heap.size, 1, none⟩) (.inr (Nat.le_refl _)) (.int .i64 f1)).set (p := ⟨W.heap.size, 2, none⟩) (.inr (Nat.le_refl _)) (.int .i64 f2)).set (p := ⟨W.heap.size, 3, none⟩) (.inr (Nat.le_refl _)) (.slice E3 f3.length Ec)
   ·exact HN2.out.up HK1.out.size
   ·exact fun k hk => by have := HE2.out k hk; have := HK1.out.size; omega
 ·have HR := Lib.hid (show qTick s = ({ s with t := s.t + 1 }, zE, false) by unfold qTick; rw [if_neg ht])
  have HT3 := Lib.hid (show 0 ≤ s.t + 1 ∧ s.t + 1 < 4 by have := HO.out.t; omega)
  obtain ⟨x, hx⟩ : ∃ x, s.t = x := ⟨_, rfl⟩
  have HXX := Lib.hid hx
  have h1 : 0 ≤ x := by have := HO.out.t; omega
  have h2 : x < 3 := by have := HO.out.t; omega
  have q1 : decide (x + 1 < 4) = true := decide_eq_true (by omega)
  have q2 : decide (x < 3) = true := decide_eq_true (by omega)
  rw [hx] at e3 HT3
  clear ht hx
  go_enter Try.func23, Try.ntmps23
  go_upto_region 3 with fail
  try rw [hw]
  have hgx : q ≠ W.heap.size := HGX.out
  have HQ1 := Lib.hid (HQ.out.setT1 (x + 1) HT3.out)
  have HX1 := Lib.hid ((Below.heap_setCell w0 ⟨q, 3, none⟩ (.int .i64 (x + 1)) W.heap.size (fun e => hgx e.symm)).trans HX.out)
  have HK1 := Lib.hid ((KeepS.of_below (sqS q q A) HB.out).set (p := ⟨q, 3, none⟩) (.inl (.inl rfl)) (.int .i64 (x + 1)))
  obtain ⟨w1, hw1⟩ : ∃ V, w0.setCell ⟨q, 3, none⟩ (.int .i64 (x + 1)) = V := ⟨_, rfl⟩
  rw [hw1] at HQ1 HX1 HK1 ⊢
  clear hw hw1 e3 z3 HQ HX
  have x0 : w1.cell? ⟨W.heap.size, 0, none⟩ = some (.int .i64 0) := (blk_cell HX1.out 0).trans rfl
  have x1 : w1.cell? ⟨W.heap.size, 1, none⟩ = some (.int .i64 0) := (blk_cell HX1.out 1).trans rfl
  have x2 : w1.cell? ⟨W.heap.size, 2, none⟩ = some (.int .i64 0) := (blk_cell HX1.out 2).trans rfl
  have x3 : w1.cell? ⟨W.heap.size, 3, none⟩ = some (.slice none 0 0) := (blk_cell HX1.out 3).trans rfl
  obtain ⟨y0, y1, y2, y3⟩ := bf4 HX1.out
  go_wp2_with fail
  refine bodyPost_ret (v := .tuple #[.agg #[.int .i64 0, .int .i64 0, .int .i64 0, .slice none 0 0], .bool false]) ?_ rfl ?_
  ·rw [results_cell_tmp rfl]
   go_simp
  ·have HKX := ((((KeepS.refl (fun i => i = W.heap.size) w1).set (p := ⟨W.heap.size, 0, none⟩) (.inl rfl) (.int .i64 0)).set (p := ⟨W.heap.size, 1, none⟩) (.inl rfl) (.int .i64 0)).set (p := ⟨W.heap.size, 2, none⟩) (.inl rfl) (.int .i64 0)).set (p := ⟨W.heap.size, 3, none⟩) (.inl rfl) (.slice none 0 0)
   have hni : ∀ i, i = W.heap.size → ¬ Inn B w1 i := fun i e => by subst e; exact not_inn HLT.out.2 HX1.out en_not
   refine ⟨A, c, .slice none 0 0, by rw [HR.out]; rfl, ?_, by rw [HR.out]; exact TR.nil _ _, ?_, NewRow.refl _ _, fun k hk => by simp [Value.ownBlock] at hk⟩
   ·rw [HR.out, HXX.out]
    exact HQ1.out.keep HKX hni (fun k hk e => by have := HLT.out.1 k hk; omega)
   ·exact (((HK1.out.set (p := ⟨W.heap.size, 0, none⟩) (.inr (Nat.le_refl _)) (.int .i64 0)).set (p := ⟨W.heap.size, 1, none⟩) (.inr (Nat.le_refl _)) (.int .i64 0)).set (p := ⟨W.heap.size, 2, none⟩) (.inr (Nat.le_refl _)) (.int .i64 0)).set (p := ⟨W.heap.size, 3, none⟩) (.inr (Nat.le_refl _)) (.slice none 0 0)
end Go.Proofs.Ytgmlpmdfkaadhaa.M
end

section
/- The sequencer's Clone. -/
attribute [local irreducible] Go.wpStill
namespace Go.Proofs.Ytgmlpmdfkaadhaa.M
open Go.RowKit Go.Proofs.YtgmlpmdfkaadhaaW.PrintWords Go.Proofs.YtgmlpmdfkaadhaaW.PrintLast Go.Proofs.YtgmlpmdfkaadhaaW.PrintMore Go.Proofs.Ytgmlpmdfkaadhaa.G
theorem mclone_is {w : World} {b n : Nat} {M : Int × Int → Option Value} {sz : Nat} (h : IsM Try.prog 72 (mk2 .i64 .i64) w b n M sz) :
  Calls Try.prog 39 #[.map (some b)] w fun e w' => ∃ b', e = .returned (.map (some b')) ∧ IsM Try.prog 72 (mk2 .i64 .i64) w' b' n M sz ∧ Below w.heap.size w w' ∧ w.heap.size ≤ b' := by
 obtain ⟨D, ⟨es, clock, h1, h2⟩, h3⟩ := h
 have HM := Lib.hid (show IsM Try.prog 72 (mk2 .i64 .i64) (w.alloc (.map es clock)) w.heap.size n M sz from ⟨D, ⟨es, clock, heap_alloc_new w _, h2⟩, h3⟩)
 have HB := Lib.hid h1
 have hq := fun w => run_eql_map_nil_sl (P := Try.prog) w 66 _ _ (some b) Try.underlying66
 clear h1 h2 h3
 go_enter Try.func39, Try.ntmps39
 go_wp2
 rw [run_callFunc_extern Try.func53 (by kernel_rfl) (by kernel_rfl) (by kernel_rfl) (e := Extern.MapsClone.clone) (by kernel_rfl), run_maps_clone_sl w 66 HB.out]
 simp only [Result.andThen]
 rw [Oper.upon_value]
 go_wp2
 rw [run_typeAssert_map_sl _ 66 20 _ _ _ Try.underlying66]
 simp only [Result.andThen]
 rw [Oper.upon_value]
 go_wp2
 go_ret
 exact ⟨_, rfl, HM.out, (Below.refl _ _).alloc (Nat.le_refl _) _, Nat.le_refl _⟩
set_option maxHeartbeats 4000000 in
theorem qclone_is {B : Nat} {W : World} {g mp nb : Nat} {s : SqS} {A : Option Addr} {c : Nat} (h : IsSq B W g mp nb s A c) :
  Calls Try.prog 24 #[.pointer (some ⟨g, 0, none⟩)] W fun e w' => ∃ g' mp' A' c', e = .returned (.pointer (some ⟨g', 0, none⟩)) ∧ IsSq B w' g' mp' nb s A' c' ∧ Below W.heap.size W w' ∧ ∀ k, sqS g' mp' A' k → W.heap.size ≤ k := by
 have H := Lib.hid (noneOf h)
 have HQ := Lib.hid h
 have HLL := Lib.hid (show s.l.length ≤ 64 from h.o.m)
 have HLT := Lib.hid (show B ≤ W.heap.size from Nat.le_trans h.bg (Nat.le_of_lt h.glt))
 have c0 : W.cell? ⟨g, 0, none⟩ = some (.bool true) := (blk_cell h.y 0).trans rfl
 have c1 : W.cell? ⟨g, 1, none⟩ = some (.int .i64 s.r) := (blk_cell h.y 1).trans rfl
 have c2 : W.cell? ⟨g, 2, none⟩ = some (.slice A s.l.length c) := (blk_cell h.y 2).trans rfl
 have c3 : W.cell? ⟨g, 3, none⟩ = some (.map (some mp)) := (blk_cell h.y 3).trans rfl
 have c4 : W.cell? ⟨g, 4, none⟩ = some (.int .i64 s.n) := (blk_cell h.y 4).trans rfl
 have c5 : W.cell? ⟨g, 5, none⟩ = some (.int .i64 s.t) := (blk_cell h.y 5).trans rfl
 clear h
 go_enter Try.func24, Try.ntmps24
 go_wp2_with fail
 refine H.out.mono ?_
 rintro e w' ⟨rfl, rfl⟩
 go_upto_region 4 with fail
 have HB1 := Lib.hid ((Below.refl w'.heap.size w').alloc (Nat.le_refl _) (.cells #[.bool true, .int .i64 s.r, .slice A s.l.length c, .map (some mp), .int .i64 s.n, .int .i64 s.t] 68))
 have HX1 := Lib.hid (heap_alloc_new w' (.cells #[.bool true, .int .i64 s.r, .slice A s.l.length c, .map (some mp), .int .i64 s.n, .int .i64 s.t] 68))
 obtain ⟨x, hx⟩ : ∃ x, w'.heap.size = x := ⟨_, rfl⟩
 have HXX := Lib.hid hx
 obtain ⟨w1, hw1⟩ : ∃ V, w'.alloc (.cells #[.bool true, .int .i64 s.r, .slice A s.l.length c, .map (some mp), .int .i64 s.n, .int .i64 s.t] 68) = V := ⟨_, rfl⟩
 rw [hw1] at HB1 HX1 ⊢
 rw [hx] at HX1 ⊢
 clear hw1 hx c0 c1 c2 c3 c4 c5 H
 have HQ1 := Lib.hid (HQ.out.below HB1.out)
 refine start_ (n := 14) (S := fun w' => w'.cell? ⟨g, 2, none⟩ = some (.slice A s.l.length c) ∧ w'.cell? ⟨g, 3, none⟩ = some (.map (some mp))) (ds := [11, 13]) #[false, false, false, false, false, false, false, false, false, false, false, false, false, false] (by kernel_rfl) rfl rfl ⟨(blk_cell (show w1.drew.heap[g]? = _ from HQ1.out.y) 2).trans rfl, (blk_cell (show w1.drew.heap[g]? = _ from HQ1.out.y) 3).trans rfl⟩ (fun hHeld => ?_)
 have HQa := Lib.hid (HQ1.out.below (Below.refl _ w1).drew); have HXa := Lib.hid (show w1.drew.heap[x]? = _ from HX1.out); have HBa := Lib.hid HB1.out.drew
 obtain ⟨wa, hwa⟩ : ∃ wa, w1.drew = wa := ⟨_, rfl⟩
 rw [hwa] at HQa HXa HBa hHeld ⊢
 clear hwa HQ1 HX1 HB1
 refine pure_ (i := 0) (N := some 9) (v := ?_) (a' := ?_) #[true, false, false, false, false, false, false, false, false, false, false, false, false, false] rfl rfl (by kernel_rfl) (fun _ _ _ h => h) (Or.inl ⟨by rfl, ?_⟩) ?_ ?_
 rotate_left
 ·intro w'
  go_simp
  try with_reducible rfl
 rotate_left
 ·simp only [Act.put, sq1, sq2, sq3, i64_w, i32_w]
  rfl
 refine pure_ (i := 1) (N := some 10) (v := ?_) (a' := ?_) #[true, true, false, false, false, false, false, false, false, false, false, false, false, false] rfl rfl (by kernel_rfl) (fun _ _ _ h => h) (Or.inl ⟨by rfl, ?_⟩) ?_ ?_
 rotate_left
 ·intro w'
  go_simp
  try with_reducible rfl
 rotate_left
 ·simp only [Act.put, sq1, sq2, sq3, i64_w, i32_w]
  rfl
 refine pure_ (i := 2) (N := some 11) (v := ?_) (a' := ?_) #[true, true, true, false, false, false, false, false, false, false, false, false, false, false] rfl rfl (by kernel_rfl) (fun _ _ _ h => h) (Or.inl ⟨by rfl, ?_⟩) ?_ ?_
 rotate_left
 ·intro w'
  go_simp
  try with_reducible rfl
 rotate_left
 ·simp only [Act.put, sq1, sq2, sq3, i64_w, i32_w]
  rfl
 refine take_ (i := 3) (N := some 12) (v := ?_) (a' := ?_) #[true, true, true, true, false, false, false, false, false, false, false, false, false, false] rfl rfl (by kernel_rfl) (fun _ _ _ h => h) (Or.inl ⟨by rfl, ?_⟩) hHeld ?_ ?_
 rotate_left
 ·intro w' hS
  obtain ⟨hS, _⟩ := hS
  go_simp
  try with_reducible rfl
 rotate_left
 ·simp only [Act.put, sq1, sq2, sq3, i64_w, i32_w]
  rfl
 refine pure_ (i := 5) (N := some 14) (v := ?_) (a' := ?_) #[true, true, true, true, false, true, false, false, false, false, false, false, false, false] rfl rfl (by kernel_rfl) (fun _ _ _ h => h) (Or.inl ⟨by rfl, ?_⟩) ?_ ?_
 rotate_left
 ·intro w'
  go_simp
  try with_reducible rfl
 rotate_left
 ·simp only [Act.put, sq1, sq2, sq3, i64_w, i32_w]
  rfl
 refine pure_ (i := 6) (N := some 15) (v := ?_) (a' := ?_) #[true, true, true, true, false, true, true, false, false, false, false, false, false, false] rfl rfl (by kernel_rfl) (fun _ _ _ h => h) (Or.inl ⟨by rfl, ?_⟩) ?_ ?_
 rotate_left
 ·intro w'
  go_simp
  try with_reducible rfl
 rotate_left
 ·simp only [Act.put, sq1, sq2, sq3, i64_w, i32_w]
  rfl
 refine pure_ (i := 7) (N := some 16) (v := ?_) (a' := ?_) #[true, true, true, true, false, true, true, true, false, false, false, false, false, false] rfl rfl (by kernel_rfl) (fun _ _ _ h => h) (Or.inl ⟨by rfl, ?_⟩) ?_ ?_
 rotate_left
 ·intro w'
  go_simp
  try with_reducible rfl
 rotate_left
 ·simp only [Act.put, sq1, sq2, sq3, i64_w, i32_w]
  rfl
 refine take_ (i := 8) (N := some 17) (v := ?_) (a' := ?_) #[true, true, true, true, false, true, true, true, true, false, false, false, false, false] rfl rfl (by kernel_rfl) (fun _ _ _ h => h) (Or.inl ⟨by rfl, ?_⟩) hHeld ?_ ?_
 rotate_left
 ·intro w' hS
  obtain ⟨_, hS⟩ := hS
  go_simp
  try with_reducible rfl
 rotate_left
 ·simp only [Act.put, sq1, sq2, sq3, i64_w, i32_w]
  rfl
 refine one_ (i := 4) (N := some 13) #[true, true, true, true, true, true, true, true, true, false, false, false, false, false] rfl rfl (by kernel_rfl) (by decide) (fun K hK => ?_)
 go_simp
 refine (clone_txs HQa.out.r (by have := HLL.out; omega) (by have := HLT.out; have := HBa.out.size; omega)).mono ?_
 rintro e w2 ⟨A', c', rfl, hT, hb, hn⟩
 have HT2 := Lib.hid hT; have HB2 := Lib.hid hb; have HN2 := Lib.hid hn; have HQ2 := Lib.hid (HQa.out.below hb); have HX2 := Lib.hid ((hb.block x (blk_lt HXa.out)).trans HXa.out)
 clear hT hb hn
 refine hK.out _ _ ⟨(blk_cell HQ2.out.y 2).trans rfl, (blk_cell HQ2.out.y 3).trans rfl⟩ (fun hHeld => ?_)
 clear hK K
 refine one_ (i := 9) (N := some 18) #[true, true, true, true, true, true, true, true, true, true, false, false, false, false] rfl rfl (by kernel_rfl) (by decide) (fun K hK => ?_)
 go_simp
 refine (mclone_is HQ2.out.m).mono ?_
 rintro e w3 ⟨mp', rfl, hM, hb, hm⟩
 have HM3 := Lib.hid hM; have HB3 := Lib.hid hb; have HMP := Lib.hid hm; have HQ3 := Lib.hid (HQ2.out.below hb); have HX3 := Lib.hid ((hb.block x (blk_lt HX2.out)).trans HX2.out); have HT3 := Lib.hid (HT2.out.below hb)
 clear hM hb hm
 refine hK.out _ _ ⟨(blk_cell HQ3.out.y 2).trans rfl, (blk_cell HQ3.out.y 3).trans rfl⟩ (fun hHeld => ?_)
 clear hK K
 refine pure_ (i := 10) (N := some 19) (v := ?_) (a' := ?_) #[true, true, true, true, true, true, true, true, true, true, true, false, false, false] rfl rfl (by kernel_rfl) (fun _ _ _ h => h) (Or.inl ⟨by rfl, ?_⟩) ?_ ?_
 rotate_left
 ·intro w'
  go_simp
  try with_reducible rfl
 rotate_left
 ·simp only [Act.put, sq1, sq2, sq3, i64_w, i32_w]
  rfl
 have q2 : w3.cell? ⟨x, 2, none⟩ = some (.slice A s.l.length c) := (blk_cell HX3.out 2).trans rfl
 have z2 : w3.frozen? ⟨x, 2, none⟩ = false := blk_frozen HX3.out 2
 have q3 : w3.cell? ⟨x, 3, none⟩ = some (.map (some mp)) := (blk_cell HX3.out 3).trans rfl
 have z3 : w3.frozen? ⟨x, 3, none⟩ = false := blk_frozen HX3.out 3
 refine last_ (i := 11) (N := none) #[true, true, true, true, true, true, true, true, true, true, true, true, false, false] rfl rfl (by kernel_rfl) (by decide) (fun K hK => ?_)
 refine skip_ (w1 := ?_) (by rfl) rfl ?_ ?_
 rotate_left
 ·go_simp
  rfl
 refine hK.out _ _ ?_
 clear hK K
 refine pure_ (i := 12) (N := some 20) (v := ?_) (a' := ?_) #[true, true, true, true, true, true, true, true, true, true, true, true, true, false] rfl rfl (by kernel_rfl) (fun _ _ _ h => h) (Or.inl ⟨by rfl, ?_⟩) ?_ ?_
 rotate_left
 ·intro w'
  go_simp
  try with_reducible rfl
 rotate_left
 ·simp only [Act.put, sq1, sq2, sq3, i64_w, i32_w]
  rfl
 refine last_ (i := 13) (N := none) #[true, true, true, true, true, true, true, true, true, true, true, true, true, true] rfl rfl (by kernel_rfl) (by decide) (fun K hK => ?_)
 refine skip_ (w1 := ?_) (by rfl) rfl ?_ ?_
 rotate_left
 ·go_simp
  rfl
 refine hK.out _ _ ?_
 clear hK K
 refine done_ (by kernel_rfl) ?_
 go_wp2_with fail
 go_ret
 have hk := ((KeepS.refl (fun i => i = x) w3).set (p := ⟨x, 2, none⟩) (.inl rfl) (.slice A' s.l.length c')).set (p := ⟨x, 3, none⟩) (.inl rfl) (.map (some mp'))
 have hxw : w'.heap.size = x := HXX.out
 have hwa := HBa.out.size
 have hlx := blk_lt HXa.out
 have hd : Below w'.heap.size w' w3 := HBa.out.trans (((HB2.out.trans (HB3.out.mono HB2.out.size))).mono hwa)
 have hni : ∀ i, i = x → ¬ Inn B w3 i := fun i e => by subst e; exact not_inn (by have := HLT.out; omega) HX3.out sq_not
 have hma : x < mp' := by have h1 := HMP.out; have h2 := HB2.out.size; omega
 refine ⟨x, mp', A', c', rfl, ⟨blk_put (blk_put HX3.out 2 _ rfl) 3 _ rfl, HM3.out.move (hk.block mp' HM3.out.lt (by omega)), HT3.out.keep hk hni (fun i hi e => by obtain ⟨a, ha, e2⟩ := own_iff.1 hi; have := HN2.out a ha; omega), HQ.out.o, by have := HLT.out; omega, by have := HLT.out; omega⟩, hd.trans (hk.below hd.size (fun i e => by omega)), ?_⟩
 rintro k (e | e | ⟨a, ha, e⟩)
 ·omega
 ·omega
 ·have := HN2.out a ha; omega
end Go.Proofs.Ytgmlpmdfkaadhaa.M
end

section
/- The sequencer and the reference side by side; a script's operation, read. -/
namespace Go.Proofs.Ytgmlpmdfkaadhaa.M
open Go.RowKit Go.Proofs.YtgmlpmdfkaadhaaW.PrintWords Go.Proofs.YtgmlpmdfkaadhaaW.PrintLast Go.Proofs.YtgmlpmdfkaadhaaW.PrintMore Go.Proofs.Ytgmlpmdfkaadhaa.G
structure OpAt (w : World) (p : Addr) (o : OpQ) (A2 : Option Addr) (c2 : Nat) (A3 : Option Addr) (c3 : Nat) (A4 : Option Addr) (c4 : Nat) (A5 : Option Addr) (c5 : Nat) : Prop where
 e0 : w.cell? p = some (.int .i64 o.k)
 e1 : w.cell? ⟨p.block, p.off + 1, none⟩ = some (.int .i64 o.t.f0)
 e2 : w.cell? ⟨p.block, p.off + 2, none⟩ = some (.int .i64 o.t.f1)
 e3 : w.cell? ⟨p.block, p.off + 3, none⟩ = some (.slice A2 o.t.f2.length c2)
 e4 : w.cell? ⟨p.block, p.off + 4, none⟩ = some (.slice A3 o.t.f3.length c3)
 e5 : w.cell? ⟨p.block, p.off + 5, none⟩ = some (.slice A4 o.t.f4.length c4)
 e6 : w.cell? ⟨p.block, p.off + 6, none⟩ = some (.slice A5 o.t.f5.length c5)
theorem op_getF {W : World} {ok : Nat → Prop} {A : Option Addr} {n : Nat} {l : List OpQ} (h : Kd.F opK W ok A n l) {k : Nat} {x : OpQ} (hk : l[k]? = some x) :
  ∃ ad A2 c2 A3 c3 A4 c4 A5 c5, A = some ad ∧ OpAt W (ad.add (k * 7)) x A2 c2 A3 c3 A4 c4 A5 c5 ∧ Kd.FK G.k32 W ok x.t [.int .i64 x.t.f0, .int .i64 x.t.f1, .slice A2 x.t.f2.length c2, .slice A3 x.t.f3.length c3, .slice A4 x.t.f4.length c4, .slice A5 x.t.f5.length c5] := by
 have hlt : k < n := by
  have := (List.getElem?_eq_some_iff.1 hk).1
  have := Kd.F_len h
  omega
 obtain ⟨ad, c, rfl, hcl, hK, hcc, _⟩ := Kd.F_get h x (k : Int) (by omega) (by omega)
 have e : l.getD (k : Int).toNat x = x := by rw [Int.toNat_natCast, List.getD_eq_getElem?_getD, hk]; rfl
 rw [e] at hK
 rw [Int.toNat_natCast] at hcc
 obtain ⟨A2, c2, A3, c3, A4, c4, A5, c5, rfl, hX⟩ := op_cells hK
 have hs : opK.sz = 7 := rfl
 rw [hs] at hcc
 refine ⟨ad, A2, c2, A3, c3, A4, c4, A5, c5, rfl, ⟨by simpa using hcc 0 _ rfl, ?_, ?_, ?_, ?_, ?_, ?_⟩, hX⟩
 ·rw [← add_field ad (k * 7) 1 (by omega)]; exact hcc 1 _ rfl
 ·rw [← add_field ad (k * 7) 2 (by omega)]; exact hcc 2 _ rfl
 ·rw [← add_field ad (k * 7) 3 (by omega)]; exact hcc 3 _ rfl
 ·rw [← add_field ad (k * 7) 4 (by omega)]; exact hcc 4 _ rfl
 ·rw [← add_field ad (k * 7) 5 (by omega)]; exact hcc 5 _ rfl
 ·rw [← add_field ad (k * 7) 6 (by omega)]; exact hcc 6 _ rfl
theorem Fop_came {w W : World} {A : Option Addr} {n : Nat} {l : List OpQ} (h : Kd.F opK w (fun k => k < w.heap.size) A n l) (hb : Below w.heap.size w W) : Kd.F opK W (fun k => k < w.heap.size) A n l := Kd.F_step h (fun k hk hlt => hb.block k hlt)
structure Two (B : Nat) (w0 W : World) (g mp nb q : Nat) (s : SqS) (A : Option Addr) (c : Nat) (r : SqS) (A' : Option Addr) (c' : Nat) : Prop where
 s : IsSq B W g mp nb s A c
 f : IsRq B W q r A' c'
 d : Below B w0 W
 x : ∀ k, sqS g mp A k → ¬ sqS q q A' k
section
variable {B : Nat} {w0 W W' : World} {g mp nb q : Nat} {s s' r r' : SqS} {A A' A2 : Option Addr} {c c' c2 nb' : Nat}
theorem Two.le (h : Two B w0 W g mp nb q s A c r A' c') : B ≤ W.heap.size := Nat.le_trans h.s.bg (Nat.le_of_lt h.s.glt)
theorem Two.below (h : Two B w0 W g mp nb q s A c r A' c') (hb : Below W.heap.size W W') : Two B w0 W' g mp nb q s A c r A' c' := ⟨h.s.below hb, h.f.below hb, h.d.trans (hb.mono h.le), h.x⟩
theorem Two.goS (h : Two B w0 W g mp nb q s A c r A' c') (hq : IsSq B W' g mp nb' s' A2 c2) (hk : KeepS (sqS g mp A) W W') (hn : NewRow W A A2) : Two B w0 W' g mp nb' q s' A2 c2 r A' c' :=
 ⟨hq, h.f.keep hk h.s.out (fun k e hs => h.x k hs e), h.d.trans (hk.below h.le h.s.ge), fun k e e' => by
  rcases sqS_new hn k e with e1 | e1
  ·exact h.x k e1 e'
  ·have := h.f.lt k e'; omega⟩
theorem Two.goF (h : Two B w0 W g mp nb q s A c r A' c') (hq : IsRq B W' q r' A2 c2) (hk : KeepS (sqS q q A') W W') (hn : NewRow W A' A2) : Two B w0 W' g mp nb q s A c r' A2 c2 :=
 ⟨h.s.keep hk h.f.out (fun k e hs => h.x k e hs), hq, h.d.trans (hk.below h.le h.f.ge), fun k e e' => by
  rcases sqS_new hn k e' with e1 | e1
  ·exact h.x k e e1
  ·have := h.s.lt k e; omega⟩
theorem Two.box {b : Nat} (h : Two B w0 W g mp nb q s A c r A' c') (hk : KeepS (fun i => i = b) W W') (hB : B ≤ b) (hni : ¬ Inn B W b) (hs : ¬ sqS g mp A b) (hf : ¬ sqS q q A' b) : Two B w0 W' g mp nb q s A c r A' c' :=
 ⟨h.s.keep hk (fun i e => by subst e; exact hni) (fun i e e' => by subst e'; exact hs e), h.f.keep hk (fun i e => by subst e; exact hni) (fun i e e' => by subst e'; exact hf e), h.d.trans (hk.below h.le (fun i e => by omega)), h.x⟩
theorem sqS_off {b : Nat} (h : ¬ sqS g mp A b) (hb : b < W.heap.size) (hn : NewRow W A A2) : ¬ sqS g mp A2 b := fun e => by
 rcases sqS_new hn b e with e1 | e1
 ·exact h e1
 ·omega
end
end Go.Proofs.Ytgmlpmdfkaadhaa.M
end

section
/- A range over a function whose values are made as it goes: what is handed to a round is known to be well in that round's world (V). -/
namespace Go.Proofs.Ytgmlpmdfkaadhaa.M
open Go.RowKit Go.Shelf Go.Proofs.YtgmlpmdfkaadhaaW.PrintWords
variable {α : Type} {F : Fence} {n : Nat} {P : Program}
def SeqV (F : Fence) (n : Nat) (P : Program) (g : Nat) (lb : Array Value) (encs : α → Array Value) (V : α → World → Prop) (S : List α → Prop) (N : Nat) (w : World) : Prop :=
 ∀ (l : Nat) (J : List α → World → Prop) (W : World), Below w.heap.size w W → (∀ s X Y, J s X → Below X.heap.size X Y → J s Y) →
  (∀ pre x W1, J pre W1 → V x W1 → Below w.heap.size w W1 → pre.length < N → YieldAt F (n - 1) P l (encs x) W1 fun e W' => e = .returned (.bool true) ∧ J (pre ++ [x]) W' ∧ Below w.heap.size W1 W') →
  J [] W → CallsIn F n P g (#[.func (.yield l) #[] #[]] ++ lb) W fun e W' => (∃ v, e = .returned v) ∧ ∃ xs, S xs ∧ J xs W'
theorem keepS_putObj {S : Nat → Prop} {W : World} {k : Nat} (o : Obj) (hk : S k) : KeepS S W (W.putObj k o) :=
 ⟨rfl, rfl, rfl, by rw [World.putObj_size]; exact Nat.le_refl _, fun i _ hi => World.putObj_heap_other (fun e => hi (e ▸ hk))⟩
def BodyV (D B0 : Nat) (I : List α → World → Prop) (xs : List α) (W2 : World) (e : Exit) (_ : Act) (W3 : World) : Prop :=
 e = .normal ∧ (∀ k, k = D ∨ k = D + 1 → W3.heap[k]? = W2.heap[k]?) ∧ Below B0 W2 W3 ∧ I xs W3
theorem range_V {g : Operand} {ps : Array Tmp} {assign body : Code} {Q : Exit → Act → World → Prop} {a : Act} {w w0 : World} (hro : F.round = none) (h1 : 1 ≤ n) {gf : Nat} {lb : Array Value} (hg : a.eval g = .func (.func gf) #[] lb) (hFg : F.fn gf) (eg : ∀ args w, (callFunc gf args).run P w = .ok (.enter gf args) w)
  {encs : α → Array Value} {V : α → World → Prop} {S : List α → Prop} {N : Nat} (hseq : SeqV F (n - 1) P gf lb encs V S N w0) (hb0 : Below w0.heap.size w0 w) (hps : ∀ x, (encs x).size = ps.size)
  (I : List α → World → Prop) (hIb : ∀ s X Y, I s X → Below X.heap.size X Y → I s Y) (hIo : ∀ s X o o', I s X → X.heap[w.heap.size + 1]? = some o → o.isCells = false → I s (X.putObj (w.heap.size + 1) o')) (hVb : ∀ x X Y, V x X → Below X.heap.size X Y → V x Y) (hVo : ∀ x X o o', V x X → X.heap[w.heap.size + 1]? = some o → o.isCells = false → V x (X.putObj (w.heap.size + 1) o')) (h0 : I [] w)
  (hround : ∀ (pre : List α) (x : α) (W : World), I pre W → V x W → Below w0.heap.size w0 W → pre.length < N → w.heap.size + 1 < W.heap.size → ∀ K : Act → World → Prop,
   (∀ a1 W1, Below W.heap.size W W1 → (∀ W2, KeepS (fun k => k = w.heap.size + 1) W1 W2 → I pre W2 → V x W2 → body.wpIn (F.inRound (w.heap.size + 1)) (n - 1 - 1) P (BodyV w.heap.size w0.heap.size I (pre ++ [x]) W2) a1 W2) → K a1 W1) →
   assign.wpIn (F.inRound (w.heap.size + 1)) (n - 1 - 1) P (Exit.then K (fun _ _ _ => False)) { tmps := (ps.zip (encs x)).foldl (fun t (p, v) => t.setIfInBounds p v) a.tmps, defers := [] } W)
  (hdone : ∀ (xs : List α) (W : World), S xs → I xs W → W.heap[w.heap.size]? = some (.deferred (some [])) → Q .normal { a with defers := { target := .collected w.heap.size, args := #[] } :: a.defers } W) :
  (Code.rangeFunc g ps assign body).wpIn F n P Q a w := by
 refine wpIn_rangeFunc ?_
 intro fn hfn
 rw [hro]
 obtain ⟨D, hD⟩ : ∃ D, w.heap.size = D := ⟨_, rfl⟩
 obtain ⟨rec, hrec⟩ : ∃ rec : LoopState → Loop, rec = fun st => { state := st, pending := none, fn, tmps := a.tmps, params := ps, assign, body, defers := D } := ⟨_, rfl⟩
 have hen := run_enterLoop_outer (P := P) (w := w) fn a.tmps ps assign body
 obtain ⟨W1, hW1⟩ : ∃ W1, (w.alloc (.deferred (some []))).alloc (.loop { state := .ready, pending := none, fn, tmps := a.tmps, params := ps, assign, body, defers := w.heap.size }) = W1 := ⟨_, rfl⟩
 rw [hW1] at hen
 have hz : (w.alloc (.deferred (some []))).heap.size = D + 1 := by rw [World.size_alloc, hD]
 have hL : W1.heap[D + 1]? = some (.loop (rec .ready)) := by rw [← hW1, ← hz, hrec, ← hD]; exact World.alloc_heap_new _ _
 have hK : W1.heap[D]? = some (.deferred (some [])) := by
  rw [← hW1]
  exact (Below.heap_alloc _ _ D (by omega)).trans (hD ▸ World.alloc_heap_new w _)
 have hb1 : Below w.heap.size w W1 := by rw [← hW1]; exact ((Below.refl _ w).alloc (Nat.le_refl _) _).alloc (by omega) _
 have hkI : ∀ {s X Y}, I s X → Below X.heap.size X Y → I s Y := fun h hb => hIb _ _ _ h hb
 refine ⟨_, _, W1, { target := .fn (.func gf) lb, args := #[.func (.yield (D + 1)) #[] #[]] }, W1, gf, #[.func (.yield (D + 1)) #[] #[]] ++ lb, W1, hen, ?_, ?_, ?_, fun _ => h1, ?_⟩
 ·rw [hD]
  simp only [resolve, hg]
  simp [go_sem]
 ·intro f' hf'
  simp [Target.leads] at hf'
  subst hf'
  exact hFg
 ·simp [invoke, go_sem, eg]
 ·refine (hseq (D + 1) (fun pre W => I pre W ∧ W.heap[D + 1]? = some (.loop (rec .ready)) ∧ W.heap[D]? = some (.deferred (some []))) W1 (hb0.trans (hb1.mono hb0.size))
   (fun s X Y hs hb => ⟨hkI hs.1 hb, (hb.block _ (Array.getElem?_eq_some_iff.1 hs.2.1).1).trans hs.2.1, (hb.block _ (Array.getElem?_eq_some_iff.1 hs.2.2).1).trans hs.2.2⟩) ?_ ⟨hkI h0 hb1, hL, hK⟩).mono ?_
  ·rintro pre x W ⟨hi, hl, hk⟩ hv hb2 hlen
   have hlt := (Array.getElem?_eq_some_iff.1 hl).1
   have hlw : D = w.heap.size := hD.symm
   have hw0 : w0.heap.size ≤ D := hD ▸ hb0.size
   have hy := run_yield (P := P) (args := encs x) hl (by rw [hrec]; exact hps x)
   rw [hrec] at hy
   refine ⟨fn, _, assign, body, hy, roundIn_of_wpIn hfn ?_⟩
   clear hy
   subst hlw
   refine hround pre x W hi hv hb2 hlen hlt _ ?_
   intro a1 Wa hba hbody
   have hl1 := (hba.block _ hlt).trans hl
   have hk1 := (hba.block _ (by omega)).trans hk
   refine ⟨_, run_beginRound hl1 (by rw [hrec]), ?_⟩
   have hlta := (Array.getElem?_eq_some_iff.1 hl1).1
   refine wpIn_mono (hbody _ (keepS_putObj _ rfl) (hIo _ _ _ _ (hkI hi hba) hl1 rfl) (hVo _ _ _ _ (hVb _ _ _ hv hba) hl1 rfl)) ?_
   rintro e a3 W3 ⟨rfl, hs, hb3, hi3⟩
   have hl3 := (hs _ (.inr rfl)).trans (World.putObj_heap_same hlta)
   have hk3 := (hs _ (.inl rfl)).trans ((World.putObj_heap_other (by omega)).trans hk1)
   have hlt3 := (Array.getElem?_eq_some_iff.1 hl3).1
   refine ⟨_, _, run_endRound none hl3, rfl, ⟨?_, ?_, ?_⟩, ?_⟩
   ·exact hIo _ _ _ _ hi3 hl3 rfl
   ·rw [World.putObj_heap_same hlt3, hrec]
    rfl
   ·exact (World.putObj_heap_other (by omega)).trans hk3
   ·refine (hba.mono (by omega)).trans ?_
    refine (KeepS.below (S := fun k => k = w.heap.size + 1) (keepS_putObj _ rfl) (by omega) (fun i e => by omega)).trans (hb3.trans ?_)
    exact KeepS.below (S := fun k => k = w.heap.size + 1) (keepS_putObj _ rfl) (by omega) (fun i e => by omega)
  ·rintro e W2 ⟨⟨v, rfl⟩, xs, hS, hi, hl, hk⟩
   rw [hD]
   refine ⟨none, _, by have := run_endLoop (P := P) hl (by rw [hrec]; simp); rw [hrec] at this; exact this, ?_⟩
   have := hdone xs (W2.putObj (D + 1) (.loop { rec .ready with state := .exhausted })) hS (by have := hIo xs W2 _ (.loop { rec .ready with state := .exhausted }) hi (by rw [hD]; exact hl) rfl; rw [hD] at this; exact this) (by rw [hD]; exact (World.putObj_heap_other (by omega)).trans hk)
   rw [hD, hrec] at this
   exact this
end Go.Proofs.Ytgmlpmdfkaadhaa.M
end

section
/- Waiting: its iterator's word. -/
namespace Go.Proofs.Ytgmlpmdfkaadhaa.M
open Go.RowKit Go.Shelf Go.Proofs.YtgmlpmdfkaadhaaW.PrintWords Go.Proofs.YtgmlpmdfkaadhaaW.PrintLast Go.Proofs.YtgmlpmdfkaadhaaW.PrintMore Go.Proofs.Ytgmlpmdfkaadhaa.G
attribute [local go_sem] Oper.semAt_some
structure TxX where
 t : TxD
 A2 : Option Addr
 c2 : Nat
 A3 : Option Addr
 c3 : Nat
 A4 : Option Addr
 c4 : Nat
 A5 : Option Addr
 c5 : Nat
def TxX.cs (x : TxX) : Array Value := #[.int .i64 x.t.f0, .int .i64 x.t.f1, .slice x.A2 x.t.f2.length x.c2, .slice x.A3 x.t.f3.length x.c3, .slice x.A4 x.t.f4.length x.c4, .slice x.A5 x.t.f5.length x.c5]
def encX (x : TxX) : Array Value := #[.agg #[.int .i64 x.t.f0, .int .i64 x.t.f1, .slice x.A2 x.t.f2.length x.c2, .slice x.A3 x.t.f3.length x.c3, .slice x.A4 x.t.f4.length x.c4, .slice x.A5 x.t.f5.length x.c5]]
def VX (lo : Nat) (x : TxX) (W : World) : Prop := Kd.R (Kd.int .u8) 5 W lo (fun _ => True) (.slice x.A2 x.t.f2.length x.c2) x.t.f2 ∧ Kd.R (Kd.int .i64) 2 W lo (fun _ => True) (.slice x.A3 x.t.f3.length x.c3) x.t.f3 ∧
 Kd.R G.k54 54 W lo (fun k => some k ≠ (Value.slice x.A5 x.t.f5.length x.c5).ownBlock) (.slice x.A4 x.t.f4.length x.c4) x.t.f4 ∧ Kd.R G.k54 54 W lo (fun k => some k ≠ (Value.slice x.A4 x.t.f4.length x.c4).ownBlock) (.slice x.A5 x.t.f5.length x.c5) x.t.f5
theorem VX.fk {B lo : Nat} {x : TxX} {W : World} (h : VX lo x W) : Kd.FK G.k32 W (Inn B W) x.t [.int .i64 x.t.f0, .int .i64 x.t.f1, .slice x.A2 x.t.f2.length x.c2, .slice x.A3 x.t.f3.length x.c3, .slice x.A4 x.t.f4.length x.c4, .slice x.A5 x.t.f5.length x.c5] :=
 fk_new h.1 h.2.1 h.2.2.1 h.2.2.2
theorem VX.below {lo : Nat} {x : TxX} {W W' : World} (h : VX lo x W) (hb : Below W.heap.size W W') : VX lo x W' :=
 ⟨Kd.R_below h.1 hb, Kd.R_below h.2.1 hb, Kd.R_below h.2.2.1 hb, Kd.R_below h.2.2.2 hb⟩
theorem VX.of {w w' : World} {t : TxD} {e : Ending} {lo : Nat} (h : TxNew w t e w') (hlo : lo ≤ w.heap.size) : ∃ x : TxX, x.t = t ∧ e = .returned (.agg x.cs) ∧ VX lo x w' ∧ Below w.heap.size w w' := by
 obtain ⟨v2, v3, v4, v5, he, h2, h3, h4, h5, hb⟩ := h
 obtain ⟨N2, c2, rfl⟩ := Kd.R_slice h2
 obtain ⟨N3, c3, rfl⟩ := Kd.R_slice h3
 obtain ⟨N4, c4, rfl⟩ := Kd.R_slice h4
 obtain ⟨N5, c5, rfl⟩ := Kd.R_slice h5
 exact ⟨⟨t, N2, c2, N3, c3, N4, c4, N5, c5⟩, rfl, he, ⟨Kd.R_lower h2 hlo, Kd.R_lower h3 hlo, Kd.R_lower h4 hlo, Kd.R_lower h5 hlo⟩, hb⟩
theorem take_snocX {α : Type} {l : List α} {k : Nat} {x : α} (h : l[k]? = some x) : l.take k ++ [x] = l.take (k + 1) := by
 rw [List.take_add_one, h]; rfl
set_option maxHeartbeats 4000000 in
theorem wait1_seq {B : Nat} {w : World} {lb : Nat} {A : Option Addr} {c : Nat} {l : List TxD} (hb0 : w.cell? ⟨lb, 0, none⟩ = some (.slice A l.length c)) (hT : TR B w (.slice A l.length c) l) (ha : ∀ t ∈ l, mayT t = true) :
  SeqV Fence.wide 3 Try.prog 37 #[.pointer (some ⟨lb, 0, none⟩)] encX (VX w.heap.size) (fun xs => xs.map (·.t) = l) l.length w := by
 intro ly J W hW hJ hY h0
 have hlm : l.length ≤ 9223372036854775807 := (hT.reads.2.2).2.1
 have hlb : lb < w.heap.size := World.block_lt_of_cell? _ _ hb0
 have hl0 : W.cell? ⟨lb, 0, none⟩ = some (.slice A l.length c) := (hW.cell (p := ⟨lb, 0, none⟩) hlb).trans hb0
 have HT := Lib.hid hT; have HA := Lib.hid ha; have HW := Lib.hid hW; have HJ := Lib.hid hJ; have HY := Lib.hid hY; have H0 := Lib.hid h0
 clear hT ha hW hb0 hJ hY h0
 refine callsIn_of_wp Try.func37 rfl trivial ?_ rfl
 simp only [Try.ntmps37, List.size_toArray, List.length_cons, List.length_nil, Nat.reduceAdd, Nat.reduceSub, Array.replicate_succ, Array.replicate_zero, List.push_toArray, List.append_toArray, List.nil_append, List.cons_append]
 gi_wp2
 gi_loopw [7] (fun i wr => ∃ (k : Nat) (pre : List TxX), k ≤ l.length ∧ i = .int .i64 (k : Int) ∧ Aside0 (pre.map (·.t) = l.take k ∧ J pre wr ∧ Below w.heap.size w wr)) (fun i _ => l.length - (intOf i).toNat)
 case atStart => exact ⟨0, [], Nat.zero_le _, rfl, ⟨by simp, H0.out, HW.out⟩⟩
 case round =>
  obtain ⟨k, pre, hk, rfl, HR⟩ := hrel
  by_cases hlt : k < l.length
  ·obtain ⟨t, ht⟩ : ∃ t, l[k]? = some t := ⟨_, List.getElem?_eq_getElem hlt⟩
   obtain ⟨ad, A2, c2, A3, c3, A4, c4, A5, c5, hAd, ⟨x0, x1, x2, x3, x4, x5⟩, hX⟩ := tx_get (HT.out.below HR.out.2.2).reads.2.2 ht
   have HX := Lib.hid hX
   have HTK := Lib.hid ht
   have HM := Lib.hid (smT_of (HA.out t (List.mem_of_getElem? ht)))
   have HLT := Lib.hid hlt
   have q1 : decide (k < l.length) = true := decide_eq_true hlt
   subst hAd
   clear ht hX hlt
   gi_wp2_with fail
   have hb1 := (Below.refl wr.heap.size wr).alloc (Nat.le_refl _) (.cells #[.int .i64 t.f0, .int .i64 t.f1, .slice A2 t.f2.length c2, .slice A3 t.f3.length c3, .slice A4 t.f4.length c4, .slice A5 t.f5.length c5] 32)
   refine ⟨trivial, (callsIn_wide.2 (cloneTx_is t (HX.out.below hb1) HM.out)).mono ?_⟩
   intro e w2 hT2
   have HB1 := Lib.hid hb1
   obtain ⟨x, rfl, rfl, hv, hb2⟩ := VX.of (lo := w.heap.size) hT2 (Nat.le_trans HR.out.2.2.size hb1.size)
   have HBW := Lib.hid (HR.out.2.2.trans ((HB1.out.trans (hb2.mono HB1.out.size)).mono HR.out.2.2.size))
   obtain ⟨fn, tmps, assign, body, hy, hR⟩ := HY.out pre x w2 (HJ.out _ _ _ (HJ.out _ _ _ HR.out.2.1 hb1) hb2) hv HBW.out (by have h1 := congrArg List.length HR.out.1; rw [List.length_map, List.length_take] at h1; have := HLT.out; omega)
   simp only [encX] at hy
   simp only [TxX.cs]
   clear hT2 hb1 hv hb2
   gi_wp2_with fail
   refine hR.mono ?_
   rintro e W3 ⟨rfl, hJ3, hk3⟩
   have HJ3 := Lib.hid hJ3; have HK3 := Lib.hid (HBW.out.trans hk3)
   clear hJ3 hk3 hR hy
   gi_wp2_with fail
   go_roundw
   case rel => exact ⟨k + 1, pre ++ [x], HLT.out, by go_num, ⟨by rw [List.map_append, HR.out.1, ← take_snocX HTK.out]; rfl, HJ3.out, HK3.out⟩⟩
   case measure => have := HLT.out; simp [intOf]; omega
  ·obtain rfl : k = l.length := by omega
   have q1 : decide (l.length < l.length) = false := decide_eq_false hlt
   gi_wp2
   go_end0
   exact ⟨⟨_, rfl⟩, _, by rw [HR.out.1, List.take_length], HR.out.2.1⟩
end Go.Proofs.Ytgmlpmdfkaadhaa.M
end

section
/- slices.Collect of what waits. -/
namespace Go.Proofs.Ytgmlpmdfkaadhaa.M
open Go.RowKit Go.Shelf Go.Proofs.YtgmlpmdfkaadhaaW.PrintWords Go.Proofs.YtgmlpmdfkaadhaaW.PrintLast Go.Proofs.YtgmlpmdfkaadhaaW.PrintMore Go.Proofs.Ytgmlpmdfkaadhaa.G
attribute [local go_sem] Oper.semAt_some
theorem tr_append_in {F : Fence} {nF : Nat} {B : Nat} {W : World} {ops : Array Oper} {rest : List Oper} {o : Oper} {a : Act} {Q : Exit → Act → World → Prop} (hgd : o.guard = none) (s x : Operand) (ho : o.op = .call { callee := .builtin .append, args := #[s, x], argTypes := #[22, 22] })
  {v : Value} {l l' : List TxD} {news : List Value} {ad : Addr} {m c : Nat} (hs : a.eval s = v) (hx : a.eval x = .slice (some ad) m c) (h : TR B W v l) (hn : Src B W ad l' news) (hm : m = l'.length) (h0 : 0 < m) (hl : l.length + m ≤ 1048576) (hB : B ≤ W.heap.size)
  (hK : ∀ v' w', TR B w' v' (l ++ l') → W.grownBy w' v.ownBlock → (v'.ownBlock = v.ownBlock ∨ ∃ b, v'.ownBlock = some b ∧ W.heap.size ≤ b) → wpListIn F nF Try.prog ops Q rest (a.put o.dst v') w') : wpListIn F nF Try.prog ops Q (o :: rest) a W := by
 obtain ⟨v', w', hr, h1, h2, h3⟩ := h.append (c := c) o.type hn hm h0 hl hB
 refine wpListIn_plain hgd fun K hK' => ?_
 unfold Oper.wpIn
 refine ⟨by simp [Oper.about, ho, resolve, Target.leads, Sem.run_pure], ?_⟩
 rw [Oper.semAt_plain F _ _ (by rw [ho]; intro c hc'; cases hc')]
 simp [execOp, ho, resolve, invoke, builtin, hs, hx, hr, Result.andThen]
 exact hK' _ _ (hK v' w' h1 h2 h3)
section
variable {B : Nat} {X : World} {k : Nat} {o : Obj}
theorem not_inn_obj (hB : B ≤ k) (h : X.heap[k]? = some o) (ho : o.isCells = false) : ¬ Inn B X k := by
 rintro (h1 | ⟨_, q, hq, cells, hc⟩)
 ·omega
 ·rw [h] at hc
  cases hc
  cases ho
theorem TR.putObj {v : Value} {l : List TxD} (hT : TR B X v l) (hB : B ≤ k) (h : X.heap[k]? = some o) (ho : o.isCells = false) (o' : Obj) : TR B (X.putObj k o') v l :=
 hT.keep (S := fun i => i = k) (keepS_putObj o' rfl) (fun i e => by subst e; exact not_inn_obj hB h ho) (fun i hi e => by
  subst e
  obtain ⟨_, cells, hc⟩ := hT.typed i hi
  rw [h] at hc
  cases hc
  cases ho)
theorem R_putObj {α : Type} {d : Kd α} {e base : Nat} {ok : Nat → Prop} {v : Value} {xs : List α} (hs : Kd.R d e X base ok v xs) (h : X.heap[k]? = some o) (ho : o.isCells = false) (o' : Obj) : Kd.R d e (X.putObj k o') base ok v xs :=
 Kd.R_mono (Kd.R_step (Kd.R_bound hs) (fun i hi _ => World.putObj_heap_other (fun e => by
  subst e
  obtain ⟨_, _, _, q, _, cells, hc⟩ := hi
  rw [h] at hc
  cases hc
  cases ho))) (fun _ hk => hk.1)
theorem VX.putObj {lo : Nat} {x : TxX} (hv : VX lo x X) (h : X.heap[k]? = some o) (ho : o.isCells = false) (o' : Obj) : VX lo x (X.putObj k o') :=
 ⟨R_putObj hv.1 h ho o', R_putObj hv.2.1 h ho o', R_putObj hv.2.2.1 h ho o', R_putObj hv.2.2.2 h ho o'⟩
end
def ApT (B : Nat) (w : World) (pre : List TxX) (W : World) : Prop := ∃ A c, W.heap[w.heap.size]? = some (.cells #[.slice A pre.length c] 22) ∧ TR B W (.slice A pre.length c) (pre.map (·.t)) ∧ (∀ a, A = some a → w.heap.size + 2 < a.block) ∧ Below w.heap.size w W
theorem ApT.below {B : Nat} {w X Y : World} {pre : List TxX} (h : ApT B w pre X) (hb : Below X.heap.size X Y) : ApT B w pre Y := by
 obtain ⟨A, c, h1, h2, h3, h4⟩ := h
 exact ⟨A, c, (hb.block _ (blk_lt h1)).trans h1, h2.below hb, h3, h4.trans (hb.mono h4.size)⟩
theorem ApT.putObj {B : Nat} {w X : World} {pre : List TxX} {k : Nat} {o : Obj} (h : ApT B w pre X) (hB : B ≤ w.heap.size) (hk : w.heap.size < k) (ho : X.heap[k]? = some o) (hc : o.isCells = false) (o' : Obj) : ApT B w pre (X.putObj k o') := by
 obtain ⟨A, c, h1, h2, h3, h4⟩ := h
 exact ⟨A, c, (World.putObj_heap_other (by omega)).trans h1, h2.putObj (by omega) ho hc o', h3, h4.trans ((keepS_putObj (S := fun i => i = k) o' rfl).below h4.size (fun i e => by omega))⟩
set_option maxHeartbeats 4000000 in
theorem appseq_txs {B : Nat} {w : World} {lb : Nat} {A : Option Addr} {c : Nat} {l : List TxD} (hb0 : w.cell? ⟨lb, 0, none⟩ = some (.slice A l.length c)) (hT : TR B w (.slice A l.length c) l) (ha : ∀ t ∈ l, mayT t = true) (hl : l.length ≤ 64) (hB : B ≤ w.heap.size) :
  Calls Try.prog 40 #[.slice none 0 0, .func (.func 37) #[] #[.pointer (some ⟨lb, 0, none⟩)]] w fun e w' => ∃ A' c', e = .returned (.slice A' l.length c') ∧ TR B w' (.slice A' l.length c') l ∧ Below w.heap.size w w' := by
 have HS := Lib.hid (wait1_seq hb0 hT ha)
 have HL := Lib.hid hl; have HB := Lib.hid hB
 have hb4 : Below w.heap.size w (w.alloc (.cells #[.slice none 0 0] 22)) := (Below.refl _ _).alloc (Nat.le_refl _) _
 have HB4 := Lib.hid hb4
 have HSZ := Lib.hid (show (w.alloc (.cells #[.slice none 0 0] 22)).heap.size = w.heap.size + 1 by simp)
 have HBL := Lib.hid (heap_alloc_new w (.cells #[.slice none 0 0] 22))
 clear hb0 hT ha hl hB hb4
 refine (callsIn_wide (n := 4)).1 ?_
 refine callsIn_of_wp_marks Try.func40 rfl trivial ?_ rfl
 simp only [Try.ntmps40, List.size_toArray, List.length_cons, List.length_nil, Nat.reduceAdd, Nat.reduceSub, Array.replicate_succ, Array.replicate_zero, List.push_toArray, List.append_toArray, List.nil_append, List.cons_append]
 gi_wp2_with fail
 obtain ⟨w4, hw4⟩ : ∃ w4, w.alloc (.cells #[.slice none 0 0] 22) = w4 := ⟨_, rfl⟩
 rw [hw4] at HB4 HSZ HBL ⊢
 clear hw4
 refine range_V (w := w4) (w0 := w) rfl (by omega) (gf := 37) (lb := #[.pointer (some ⟨lb, 0, none⟩)]) rfl trivial (enters_of Try.func37 (by kernel_rfl) rfl)
  HS.out HB4.out (fun _ => rfl) (ApT B w) (fun _ _ _ h hb => h.below hb) (fun s X o o' h ho hc => h.putObj HB.out (by rw [HSZ.out]; omega) ho hc o') (fun x X Y h hb => h.below hb) (fun x X o o' h ho hc => h.putObj ho hc o')
  ⟨none, 0, HBL.out, TR.nil _ _, fun a ha => (by cases ha), HB4.out⟩ ?round ?done
 case round =>
  rintro pre x W hi hv hbw hlen hlt K hK
  dsimp only [encX]
  gi_wp2_with fail
  refine hK _ _ ((Below.refl W.heap.size W).alloc (Nat.le_refl _) _) (fun W2 hk2 hi2 hv2 => ?_)
  obtain ⟨A1, c1, h1, h2, h3, h4⟩ := hi2
  have hbl : W2.heap[W.heap.size]? = some (.cells #[.int .i64 x.t.f0, .int .i64 x.t.f1, .slice x.A2 x.t.f2.length x.c2, .slice x.A3 x.t.f3.length x.c3, .slice x.A4 x.t.f4.length x.c4, .slice x.A5 x.t.f5.length x.c5] 32) := (hk2.block W.heap.size (by simp) (by omega)).trans (heap_alloc_new W _)
  have HB1 := Lib.hid h1; have HT1 := Lib.hid h2; have HN1 := Lib.hid h3; have HW1 := Lib.hid h4
  have HTA := Lib.hid (h2.alloc (.cells #[.int .i64 x.t.f0, .int .i64 x.t.f1, .slice x.A2 x.t.f2.length x.c2, .slice x.A3 x.t.f3.length x.c3, .slice x.A4 x.t.f4.length x.c4, .slice x.A5 x.t.f5.length x.c5] 32))
  have HSR := Lib.hid (show Src B (W2.alloc (.cells #[.int .i64 x.t.f0, .int .i64 x.t.f1, .slice x.A2 x.t.f2.length x.c2, .slice x.A3 x.t.f3.length x.c3, .slice x.A4 x.t.f4.length x.c4, .slice x.A5 x.t.f5.length x.c5] 32)) ⟨W2.heap.size, 0, none⟩ [x.t] _ from src_one (e := 32) hv2.fk)
  have HLP := Lib.hid (show pre.length ≤ 64 by have := HL.out; omega)
  have HL4 := Lib.hid (show w.heap.size + 2 < W2.heap.size by have h8 := HSZ.out; have h9 : W.heap.size + 1 ≤ W2.heap.size := (by have := hk2.size; simpa using this); omega)
  have b0 : W2.cell? ⟨w.heap.size, 0, none⟩ = some (.slice A1 pre.length c1) := (blk_cell h1 0).trans rfl
  have z0 : W2.frozen? ⟨w.heap.size, 0, none⟩ = false := blk_frozen h1 0
  have x0 : W2.cell? ⟨W.heap.size, 0, none⟩ = some (.int .i64 x.t.f0) := (blk_cell hbl 0).trans rfl
  have x1 : W2.cell? ⟨W.heap.size, 1, none⟩ = some (.int .i64 x.t.f1) := (blk_cell hbl 1).trans rfl
  have x2 : W2.cell? ⟨W.heap.size, 2, none⟩ = some (.slice x.A2 x.t.f2.length x.c2) := (blk_cell hbl 2).trans rfl
  have x3 : W2.cell? ⟨W.heap.size, 3, none⟩ = some (.slice x.A3 x.t.f3.length x.c3) := (blk_cell hbl 3).trans rfl
  have x4 : W2.cell? ⟨W.heap.size, 4, none⟩ = some (.slice x.A4 x.t.f4.length x.c4) := (blk_cell hbl 4).trans rfl
  have x5 : W2.cell? ⟨W.heap.size, 5, none⟩ = some (.slice x.A5 x.t.f5.length x.c5) := (blk_cell hbl 5).trans rfl
  clear h1 h2 h3 h4 hbl hk2 hv2 hi hv hbw hlen hlt hK
  gi_wp2_with (gi_at_builtin; refine tr_append_in rfl (.tmp 8) (.tmp 10) rfl rfl rfl HTA.out HSR.out rfl (by decide) (by have := HLP.out; simp; omega) (by have := HB.out; have := HW1.out.size; simp; omega) ?_; intro v1 w5 ho hg5 hat; obtain ⟨A5, c5, rfl, _⟩ := ho.slice; have HO5 := Lib.hid ho; have HG5 := Lib.hid hg5; have HA5 := Lib.hid (NewRow.of hat); have HX5 := Lib.hid ((hg5.block w.heap.size (by have := HL4.out; simp; omega) (fun e => by obtain ⟨a, ha, e2⟩ := own_iff.1 e.symm; have := HN1.out a ha; omega)).trans ((Below.heap_alloc W2 _ w.heap.size (by have := HL4.out; omega)).trans HB1.out)); have y0 : w5.cell? ⟨w.heap.size, 0, none⟩ = some (.slice A1 pre.length c1) := (blk_cell HX5.out 0).trans rfl; have y1 : w5.frozen? ⟨w.heap.size, 0, none⟩ = false := blk_frozen HX5.out 0; clear ho hg5 hat b0 z0 x0 x1 x2 x3 x4 x5)
  have hn5 : ∀ a, A5 = some a → w.heap.size + 2 < a.block := fun a ha => by
   rcases HA5.out a ha with ⟨a0, e1, e2⟩ | e
   ·rw [← e2]; exact HN1.out a0 e1
   ·have := HL4.out; simp at e; omega
  have hk5 : KeepS (fun i => w.heap.size ≤ i ∧ i ≠ w4.heap.size ∧ i ≠ w4.heap.size + 1) W2 w5 := (KeepS.of_below _ ((Below.refl W2.heap.size W2).alloc (Nat.le_refl _) _)).trans (KeepS.of_grown HG5.out (fun i hi => by obtain ⟨a, ha, e2⟩ := own_iff.1 hi; have := HN1.out a ha; have := HSZ.out; omega))
  have hk6 := hk5.set (p := ⟨w.heap.size, 0, none⟩) (.inl ⟨Nat.le_refl _, by have := HSZ.out; show w.heap.size ≠ _; omega, by have := HSZ.out; show w.heap.size ≠ _; omega⟩) (.slice A5 (pre.length + 1) c5)
  refine ⟨rfl, ?_, ?_, ⟨A5, c5, ?_, ?_, hn5, ?_⟩⟩
  ·intro k hk
   have h8 := HSZ.out; have h9 := HL4.out
   refine (Below.heap_setCell w5 ⟨w.heap.size, 0, none⟩ _ k (by show k ≠ w.heap.size; omega)).trans (hk5.block k (by omega) (fun e => by omega))
  ·exact hk6.below (by have := HW1.out.size; omega) (fun i e => e.1)
  ·rw [show (pre ++ [x]).length = pre.length + 1 by simp]
   exact blk_put HX5.out 0 _ rfl
  ·have hni : ∀ i, i = w.heap.size → ¬ Inn B w5 i := fun i e => by subst e; exact not_inn HB.out HX5.out (by decide)
   have h7 := HO5.out.keep ((KeepS.refl (fun i => i = w.heap.size) w5).set (p := ⟨w.heap.size, 0, none⟩) (.inl rfl) (.slice A5 (pre.length + 1) c5)) hni (fun k hk e => by obtain ⟨a, ha, e2⟩ := own_iff.1 hk; have := hn5 a ha; omega)
   rw [List.map_append]
   have e1 : (List.map (fun x => x.t) pre ++ [x.t]).length = (pre ++ [x]).length := by simp
   rw [e1] at h7
   exact h7
  ·exact HW1.out.trans (hk6.below (by have := HW1.out.size; omega) (fun i e => e.1))
 case done =>
  rintro xs W hS ⟨A1, c1, h1, h2, h3, h4⟩ hKD
  have hlen : xs.length = l.length := by rw [← hS, List.length_map]
  have HB1 := Lib.hid h1; have HT1 := Lib.hid h2; have HN1 := Lib.hid h3; have HW1 := Lib.hid h4; have HLN := Lib.hid hlen; have HSS := Lib.hid hS
  have b0 : W.cell? ⟨w.heap.size, 0, none⟩ = some (.slice A1 xs.length c1) := (blk_cell h1 0).trans rfl
  clear h1 h2 h3 h4 hlen hS
  gi_wp2_with fail
  refine ⟨by simp, .inl ⟨_, _, rfl, run_takeDeferred hKD, ?_⟩⟩
  refine ⟨_, results_tmp rfl _ _ _, ?_⟩
  have hT := HT1.out.putObj (k := w4.heap.size) (by have := HB.out; have := HSZ.out; omega) hKD rfl (.deferred none)
  rw [HSS.out, HLN.out] at hT
  exact ⟨A1, c1, by rw [HLN.out]; rfl, hT, HW1.out.trans ((keepS_putObj (S := fun i => i = w4.heap.size) (.deferred none) rfl).below HW1.out.size (fun i e => by have := HSZ.out; omega))⟩
theorem collect_txs {B : Nat} {w : World} {lb : Nat} {A : Option Addr} {c : Nat} {l : List TxD} (hb0 : w.cell? ⟨lb, 0, none⟩ = some (.slice A l.length c)) (hT : TR B w (.slice A l.length c) l) (ha : ∀ t ∈ l, mayT t = true) (hl : l.length ≤ 64) (hB : B ≤ w.heap.size) :
  Calls Try.prog 27 #[.func (.func 37) #[] #[.pointer (some ⟨lb, 0, none⟩)]] w fun e w' => ∃ A' c', e = .returned (.slice A' l.length c') ∧ TR B w' (.slice A' l.length c') l ∧ Below w.heap.size w w' := by
 have H := Lib.hid (appseq_txs hb0 hT ha hl hB)
 clear hb0 hT ha hl hB
 go_enter Try.func27, Try.ntmps27
 go_wp2_with fail
 refine H.out.mono ?_
 rintro e w1 ⟨A1, c1, rfl, h1, h2⟩
 have H1 := Lib.hid h1; have H2 := Lib.hid h2
 clear h1 h2
 go_wp2_with fail
 go_ret
 exact ⟨_, _, rfl, H1.out, H2.out⟩
theorem waiting_is {B : Nat} {W : World} {g mp nb : Nat} {s : SqS} {A : Option Addr} {c : Nat} (h : IsSq B W g mp nb s A c) :
  Calls Try.prog 19 #[.pointer (some ⟨g, 0, none⟩)] W fun e w' => ∃ lb A' c', e = .returned (.func (.func 37) #[] #[.pointer (some ⟨lb, 0, none⟩)]) ∧ w'.cell? ⟨lb, 0, none⟩ = some (.slice A' s.l.length c') ∧ TR B w' (.slice A' s.l.length c') s.l ∧ Below W.heap.size W w' := by
 have hb := (Below.refl W.heap.size W).alloc (Nat.le_refl _) (.cells #[.slice none 0 0] 22)
 have HX := Lib.hid (heap_alloc_new W (.cells #[.slice none 0 0] 22))
 have HLT := Lib.hid (show B ≤ W.heap.size from Nat.le_trans h.bg (Nat.le_of_lt h.glt))
 obtain ⟨w0, hw⟩ : ∃ V, W.alloc (.cells #[.slice none 0 0] 22) = V := ⟨_, rfl⟩
 rw [hw] at hb HX
 have HQ := Lib.hid (h.below hb)
 have H := Lib.hid (noneOf (h.below hb))
 have HB := Lib.hid hb
 have e2 : w0.cell? ⟨g, 2, none⟩ = some (.slice A s.l.length c) := (blk_cell (h.below hb).y 2).trans rfl
 clear h hb
 go_enter Try.func19, Try.ntmps19
 go_wp2_with fail
 refine H.out.mono ?_
 rintro e w' ⟨rfl, rfl⟩
 clear H
 go_wp2_with fail
 refine (clone_txs HQ.out.r (by have h9 : s.l.length ≤ 64 := HQ.out.o.m; omega) (Nat.le_trans HLT.out HB.out.size)).mono ?_
 rintro e w1 ⟨A', c', rfl, hT, hb1, hn⟩
 have HT := Lib.hid hT; have HB1 := Lib.hid hb1; have HN := Lib.hid hn
 have HX1 := Lib.hid ((hb1.block W.heap.size (blk_lt HX.out)).trans HX.out)
 have y0 : w1.cell? ⟨W.heap.size, 0, none⟩ = some (.slice none 0 0) := (blk_cell HX1.out 0).trans rfl
 have y1 : w1.frozen? ⟨W.heap.size, 0, none⟩ = false := blk_frozen HX1.out 0
 clear hT hb1 hn e2
 go_wp2_with fail
 go_ret
 have hk := (KeepS.refl (fun i => i = W.heap.size) w1).set (p := ⟨W.heap.size, 0, none⟩) (.inl rfl) (.slice A' s.l.length c')
 refine ⟨W.heap.size, A', c', rfl, (blk_cell (blk_put HX1.out 0 _ rfl) 0).trans rfl, HT.out.keep hk (fun i e => by subst e; exact not_inn HLT.out HX1.out (by decide)) (fun k hk' e => by obtain ⟨a, ha, e2⟩ := own_iff.1 hk'; have := HN.out a ha; have := blk_lt HX.out; omega), ?_⟩
 exact (HB.out.trans (HB1.out.mono HB.out.size)).setCell (p := ⟨W.heap.size, 0, none⟩) (Nat.le_refl _) _
end Go.Proofs.Ytgmlpmdfkaadhaa.M
end

section
/- Which entries are the same: the reference's SameEntry. -/
attribute [local irreducible] Go.wpStill
namespace Go.Proofs.Ytgmlpmdfkaadhaa.M
open Go.RowKit Go.Proofs.YtgmlpmdfkaadhaaW.PrintWords Go.Proofs.YtgmlpmdfkaadhaaW.PrintLast Go.Proofs.YtgmlpmdfkaadhaaW.PrintMore Go.Proofs.Ytgmlpmdfkaadhaa.G
theorem refSameEn_is (k f n : Int) (A : Option Addr) (c : Nat) (l : List TxD) (k' f' n' : Int) (A' : Option Addr) (c' : Nat) (l' : List TxD) (w : World) (ha : Kd.C G.k32 w A l.length l) (hc : l.length ≤ c) (hb : Kd.C G.k32 w A' l'.length l') (hc' : l'.length ≤ c') :
  Calls Try.prog 22 #[.agg #[.int .i64 k, .int .i64 f, .int .i64 n, .slice A l.length c], .agg #[.int .i64 k', .int .i64 f', .int .i64 n', .slice A' l'.length c']] w fun e w' => e = .returned (.bool (eqEn k f n l k' f' n' l')) ∧ Below w.heap.size w w' := by
 obtain ⟨M, hM⟩ := bound_T l
 refine G.trivetref04_SameEntry.calls (M + l.length + 3) k f n A c l k' f' n' A' c' l' _ w ha hc hb hc' (sameEn_r _ k f n l k' f' n' l' (fun t ht => by have := hM t ht; omega) (by omega) ha.2.1 (fun t ht => ?_))
 obtain ⟨i, hi⟩ := List.getElem?_of_mem ht
 obtain ⟨ad, A2, c2, A3, c3, A4, c4, A5, c5, _, _, hX⟩ := tx_get ha hi
 exact hX.le
end Go.Proofs.Ytgmlpmdfkaadhaa.M
end

section
/- SequencerDoes: the walk. -/
attribute [local irreducible] Go.wpStill
namespace Go.Proofs.Ytgmlpmdfkaadhaa.M
open Go.RowKit Go.Proofs.YtgmlpmdfkaadhaaW.PrintWords Go.Proofs.YtgmlpmdfkaadhaaW.PrintLast Go.Proofs.YtgmlpmdfkaadhaaW.PrintMore Go.Proofs.Ytgmlpmdfkaadhaa.G
def Dz (w : World) (q j : Nat) (v : Value) (W : World) : Prop := ∃ (g mp nb : Nat) (s : SqS) (A : Option Addr) (c : Nat) (A' : Option Addr) (c' : Nat), v = .pointer (some ⟨g, 0, none⟩) ∧ nb ≤ j ∧ Two w.heap.size w W g mp nb q s A c s A' c'
def Md (w : World) (q j xa xb : Nat) (i1 i2 v : Value) (W : World) : Prop := ∃ (b : Bool) (k f n : Int) (l : List TxD) (E : Option Addr) (e : Nat) (E' : Option Addr) (e' : Nat), i1 = .bool b ∧ i2 = .bool b ∧ Dz w q j v W ∧
 W.heap[xa]? = some (.cells #[.int .i64 k, .int .i64 f, .int .i64 n, .slice E l.length e] 36) ∧ W.heap[xb]? = some (.cells #[.int .i64 k, .int .i64 f, .int .i64 n, .slice E' l.length e'] 36) ∧ TR w.heap.size W (.slice E l.length e) l ∧ TR w.heap.size W (.slice E' l.length e') l
theorem eqEn_refl (k f n : Int) (l : List TxD) : eqEn k f n l k f n l = true := by unfold eqEn; rw [eqTs_refl]; simp
set_option maxHeartbeats 16000000 in
theorem does_walk (w : World) (r : Int) (A0 : Option Addr) (c0 : Nat) (l : List OpQ) (hF : Kd.F opK w (fun k => k < w.heap.size) A0 l.length l) (hc : l.length ≤ c0) (hok : ∀ o ∈ l, okOp o) :
  Calls Try.prog 6 #[.int .i64 r, .slice A0 l.length c0] w fun e w' => e = .returned (.bool true) ∧ Below w.heap.size w w' := by
 have HF := Lib.hid hF; have HOK := Lib.hid hok
 have hlm : l.length ≤ 9223372036854775807 := Kd.F_max hF
 clear hF hok hc
 by_cases hr : 0 ≤ r ∧ r ≤ 4
 case neg =>
  have HR := Lib.hid hr
  clear hr
  go_enter Try.func6, Try.ntmps6
  go_wp2_with fail
  refine (new_no HR.out).mono ?_
  rintro e w1 ⟨rfl, rfl⟩
  go_wp2_with fail
  refine (rnew_no HR.out).mono ?_
  rintro e w2 ⟨rfl, rfl⟩
  go_wp2_with fail
  refine (live_is _).mono ?_
  rintro e w3 ⟨rfl, hb⟩
  have HB := Lib.hid hb
  clear hb
  go_wp2_with fail
  go_ret
  exact ⟨rfl, HB.out⟩
 have HR := Lib.hid hr
 clear hr
 go_enter Try.func6, Try.ntmps6
 go_wp2_with fail
 refine (new_run (r := r) HR.out (Below.refl w.heap.size w) (Nat.le_refl _)).mono ?_
 rintro e w1 ⟨g0, mp0, rfl, hR, _, _⟩
 have HR1 := Lib.hid hR
 clear hR
 go_wp2_with fail
 refine (rnew_is HR.out (B := w.heap.size) HR1.out.le).mono ?_
 rintro e w2 ⟨rfl, hq, hb⟩
 have HT2 := Lib.hid (show Two w.heap.size w w2 g0 mp0 0 w1.heap.size (newQ r) none 0 (newQ r) none 0 from ⟨HR1.out.q.below hb, hq, HR1.out.d.trans (hb.mono HR1.out.le), fun k e e' => by
  have h1 := HR1.out.q.lt k e
  rcases e' with e' | e' | ⟨a, ha, _⟩
  ·omega
  ·omega
  ·cases ha⟩)
 obtain ⟨q, hq0⟩ : ∃ q, w1.heap.size = q := ⟨_, rfl⟩
 rw [hq0] at HT2 ⊢
 clear hq hb hq0 HR1
 go_wp2_with fail
 refine (live_is w2).mono ?_
 rintro e w3 ⟨rfl, hb⟩
 have HT3 := Lib.hid (HT2.out.below hb)
 clear hb HT2
 go_wp2_with fail
 go_loopw [5, 44] (fun v i wr => ∃ j : Nat, i = .int .i64 (j : Int) ∧ j ≤ l.length ∧ Dz w q j v wr) (fun _ i _ => l.length - (intOf i).toNat)
 case atStart => exact ⟨0, rfl, Nat.zero_le _, g0, mp0, 0, newQ r, none, 0, none, 0, rfl, Nat.le_refl _, HT3.out⟩
 case round =>
  obtain ⟨j, rfl, hj, g, mp, nb, s, A, c, A', c', rfl, hn, hT⟩ := hrel
  have HTr := Lib.hid hT; have HNJ := Lib.hid hn
  clear hT hn HT3
  by_cases hlt : j < l.length
  ·obtain ⟨o, ho⟩ : ∃ o, l[j]? = some o := ⟨_, List.getElem?_eq_getElem hlt⟩
   obtain ⟨ad, A2, c2, A3, c3, A4, c4, A5, c5, hEad, ⟨x0, x1, x2, x3, x4, x5, x6⟩, hX⟩ := op_getF (Fop_came HF.out HTr.out.d) ho
   have HOO := Lib.hid (HOK.out o (List.mem_of_getElem? ho))
   obtain ⟨k0, t⟩ := o
   dsimp only at x0 x1 x2 x3 x4 x5 x6 hX
   have HOT := Lib.hid (show okT t = true from okT_wf HOO.out.2)
   have HWF := Lib.hid (show wf2 .i64 .i64 (t.f0, t.f1) from wf_key HOT.out)
   have HX := Lib.hid (Kd.FK_mono hX (fun k hk => (.inl hk : Inn w.heap.size wr k)))
   have HF2 := Lib.hid HF.out
   subst hEad
   have HLT := Lib.hid hlt
   have q1 : decide (j < l.length) = true := decide_eq_true hlt
   clear ho hX HF HOO
   go_upto_region 12 with fail
   have hb1 := (Below.refl wr.heap.size wr).alloc (Nat.le_refl _) (.cells #[.int .i64 k0, .int .i64 t.f0, .int .i64 t.f1, .slice A2 t.f2.length c2, .slice A3 t.f3.length c3, .slice A4 t.f4.length c4, .slice A5 t.f5.length c5] 59)
   have hb2 := hb1.alloc hb1.size (.cells #[.int .i64 0, .int .i64 0, .int .i64 0, .slice none 0 0] 36)
   have HB3 := Lib.hid (hb2.alloc hb2.size (.cells #[.int .i64 0, .int .i64 0, .int .i64 0, .slice none 0 0] 36))
   have hx1 := heap_alloc_new wr (.cells #[.int .i64 k0, .int .i64 t.f0, .int .i64 t.f1, .slice A2 t.f2.length c2, .slice A3 t.f3.length c3, .slice A4 t.f4.length c4, .slice A5 t.f5.length c5] 59)
   have hx2 := heap_alloc_new (wr.alloc (.cells #[.int .i64 k0, .int .i64 t.f0, .int .i64 t.f1, .slice A2 t.f2.length c2, .slice A3 t.f3.length c3, .slice A4 t.f4.length c4, .slice A5 t.f5.length c5] 59)) (.cells #[.int .i64 0, .int .i64 0, .int .i64 0, .slice none 0 0] 36)
   have hx3 := heap_alloc_new ((wr.alloc (.cells #[.int .i64 k0, .int .i64 t.f0, .int .i64 t.f1, .slice A2 t.f2.length c2, .slice A3 t.f3.length c3, .slice A4 t.f4.length c4, .slice A5 t.f5.length c5] 59)).alloc (.cells #[.int .i64 0, .int .i64 0, .int .i64 0, .slice none 0 0] 36)) (.cells #[.int .i64 0, .int .i64 0, .int .i64 0, .slice none 0 0] 36)
   have hx12 := (((Below.refl (wr.alloc (.cells #[.int .i64 k0, .int .i64 t.f0, .int .i64 t.f1, .slice A2 t.f2.length c2, .slice A3 t.f3.length c3, .slice A4 t.f4.length c4, .slice A5 t.f5.length c5] 59)).heap.size (wr.alloc (.cells #[.int .i64 k0, .int .i64 t.f0, .int .i64 t.f1, .slice A2 t.f2.length c2, .slice A3 t.f3.length c3, .slice A4 t.f4.length c4, .slice A5 t.f5.length c5] 59))).alloc (Nat.le_refl _) (.cells #[.int .i64 0, .int .i64 0, .int .i64 0, .slice none 0 0] 36)).alloc (by simp) (.cells #[.int .i64 0, .int .i64 0, .int .i64 0, .slice none 0 0] 36)).block wr.heap.size (blk_lt hx1)
   have hx23 := ((Below.refl ((wr.alloc (.cells #[.int .i64 k0, .int .i64 t.f0, .int .i64 t.f1, .slice A2 t.f2.length c2, .slice A3 t.f3.length c3, .slice A4 t.f4.length c4, .slice A5 t.f5.length c5] 59)).alloc (.cells #[.int .i64 0, .int .i64 0, .int .i64 0, .slice none 0 0] 36)).heap.size ((wr.alloc (.cells #[.int .i64 k0, .int .i64 t.f0, .int .i64 t.f1, .slice A2 t.f2.length c2, .slice A3 t.f3.length c3, .slice A4 t.f4.length c4, .slice A5 t.f5.length c5] 59)).alloc (.cells #[.int .i64 0, .int .i64 0, .int .i64 0, .slice none 0 0] 36))).alloc (Nat.le_refl _) (.cells #[.int .i64 0, .int .i64 0, .int .i64 0, .slice none 0 0] 36)).block _ (blk_lt hx2)
   have HO4 := Lib.hid (hx12.trans hx1); have HA4 := Lib.hid (hx23.trans hx2); have HB4 := Lib.hid hx3
   have hs1 : (wr.alloc (.cells #[.int .i64 k0, .int .i64 t.f0, .int .i64 t.f1, .slice A2 t.f2.length c2, .slice A3 t.f3.length c3, .slice A4 t.f4.length c4, .slice A5 t.f5.length c5] 59)).heap.size = wr.heap.size + 1 := by simp
   have hs2 : ((wr.alloc (.cells #[.int .i64 k0, .int .i64 t.f0, .int .i64 t.f1, .slice A2 t.f2.length c2, .slice A3 t.f3.length c3, .slice A4 t.f4.length c4, .slice A5 t.f5.length c5] 59)).alloc (.cells #[.int .i64 0, .int .i64 0, .int .i64 0, .slice none 0 0] 36)).heap.size = wr.heap.size + 1 + 1 := by simp
   rw [hs1] at HA4
   rw [hs2] at HB4
   obtain ⟨ob, hob⟩ : ∃ ob, wr.heap.size = ob := ⟨_, rfl⟩
   have HOB := Lib.hid (show (∀ k, sqS g mp A k → k < ob) ∧ (∀ k, sqS q q A' k → k < ob) ∧ w.heap.size ≤ ob by rw [← hob]; exact ⟨HTr.out.s.lt, HTr.out.f.lt, HTr.out.le⟩)
   clear hb1 hb2 hx1 hx2 hx3 hx12 hx23 hs1 hs2
   obtain ⟨w4, hw4⟩ : ∃ V, ((wr.alloc (.cells #[.int .i64 k0, .int .i64 t.f0, .int .i64 t.f1, .slice A2 t.f2.length c2, .slice A3 t.f3.length c3, .slice A4 t.f4.length c4, .slice A5 t.f5.length c5] 59)).alloc (.cells #[.int .i64 0, .int .i64 0, .int .i64 0, .slice none 0 0] 36)).alloc (.cells #[.int .i64 0, .int .i64 0, .int .i64 0, .slice none 0 0] 36) = V := ⟨_, rfl⟩
   rw [hw4] at HB3 HO4 HA4 HB4 ⊢
   have HT4 := Lib.hid (HTr.out.below HB3.out)
   have HX4 := Lib.hid (FK_calm HX.out (.of_below HB3.out))
   rw [hob] at HO4 HA4 HB4 ⊢
   obtain ⟨xa, hxa⟩ : ∃ xa, ob + 1 = xa := ⟨_, rfl⟩
   rw [hxa] at HA4 HB4 ⊢
   obtain ⟨xb, hxb⟩ : ∃ xb, xa + 1 = xb := ⟨_, rfl⟩
   rw [hxb] at HB4 ⊢
   have HXO := Lib.hid (show ob < xa ∧ xa < xb by omega)
   clear hxa hxb hw4 hob x0 x1 x2 x3 x4 x5 x6 HX HB3 HTr
   have HNA := Lib.hid (show ∀ b, ob ≤ b → ¬ sqS g mp A b ∧ ¬ sqS q q A' b from fun b h => ⟨fun e => by have := HOB.out.1 b e; omega, fun e => by have := HOB.out.2.1 b e; omega⟩)
   have HIA := Lib.hid (show ¬ Inn w.heap.size w4 xa from not_inn (by have := HOB.out.2.2; have := HXO.out; omega) HA4.out en_not)
   have HIB := Lib.hid (show ¬ Inn w.heap.size w4 xb from not_inn (by have := HOB.out.2.2; have := HXO.out; omega) HB4.out en_not)
   have t0 : w4.cell? ⟨ob, 0, none⟩ = some (.int .i64 k0) := (blk_cell HO4.out 0).trans rfl
   have t1 : w4.cell? ⟨ob, 1, none⟩ = some (.int .i64 t.f0) := (blk_cell HO4.out 1).trans rfl
   have t2 : w4.cell? ⟨ob, 2, none⟩ = some (.int .i64 t.f1) := (blk_cell HO4.out 2).trans rfl
   have t3 : w4.cell? ⟨ob, 3, none⟩ = some (.slice A2 t.f2.length c2) := (blk_cell HO4.out 3).trans rfl
   have t4 : w4.cell? ⟨ob, 4, none⟩ = some (.slice A3 t.f3.length c3) := (blk_cell HO4.out 4).trans rfl
   have t5 : w4.cell? ⟨ob, 5, none⟩ = some (.slice A4 t.f4.length c4) := (blk_cell HO4.out 5).trans rfl
   have t6 : w4.cell? ⟨ob, 6, none⟩ = some (.slice A5 t.f5.length c5) := (blk_cell HO4.out 6).trans rfl
   have HNJ2 := Lib.hid (show nb + 1 ≤ j + 1 by have := HNJ.out; omega)
   have HNJ3 := Lib.hid (show nb ≤ j + 1 by have := HNJ.out; omega)
   have HNM := Lib.hid (show nb < maxLen by have := HNJ.out; have := HLT.out; simp only [maxLen]; omega)
   go_upto_block 2 with fail
   go_cut [13, 14, 5] (fun i1 i2 v wx => Md w q (j + 1) xa xb i1 i2 v wx)
   case first =>
    by_cases h0 : k0 = 0
    ·subst h0
     have HTd := Lib.hid (HT4.out.below (Below.refl _ w4).drew)
     have HXd := Lib.hid (FK_calm HX4.out (.of_below (Below.refl _ w4).drew))
     have HOd := Lib.hid (show w4.drew.heap[ob]? = _ from HO4.out); have HAd := Lib.hid (show w4.drew.heap[xa]? = _ from HA4.out); have HBd := Lib.hid (show w4.drew.heap[xb]? = _ from HB4.out)
     obtain ⟨z, hz⟩ : ∃ z, (qTake s t).2 = z := ⟨_, rfl⟩
     have HZ := Lib.hid hz
     clear hz
     have qz : (z != z) = false := by simp
     go_wp2_with fail
     go_region_held3 (fun w' => w'.cell? ⟨ob, 1, none⟩ = some (.int .i64 t.f0) ∧ w'.cell? ⟨ob, 2, none⟩ = some (.int .i64 t.f1) ∧ w'.cell? ⟨ob, 3, none⟩ = some (.slice A2 t.f2.length c2) ∧ w'.cell? ⟨ob, 4, none⟩ = some (.slice A3 t.f3.length c3) ∧ w'.cell? ⟨ob, 5, none⟩ = some (.slice A4 t.f4.length c4) ∧ w'.cell? ⟨ob, 6, none⟩ = some (.slice A5 t.f5.length c5)) (go_keep) (first
      | (go_at_call 10; refine (take_is HTd.out.s HXd.out HOT.out HNM.out HWF.out).mono ?_; rintro e w5 ⟨B5, d5, rfl, hQ, hK, hN⟩; rw [HZ.out]; have HT5 := Lib.hid (HTd.out.goS hQ hK hN); have HO5 := Lib.hid ((hK.block ob (blk_lt HOd.out) (HNA.out ob (by have := HXO.out; omega)).1).trans HOd.out); have HA5 := Lib.hid ((hK.block xa (blk_lt HAd.out) (HNA.out xa (by have := HXO.out; omega)).1).trans HAd.out); have HB5 := Lib.hid ((hK.block xb (blk_lt HBd.out) (HNA.out xb (by have := HXO.out; omega)).1).trans HBd.out); have HX5 := Lib.hid (FK_calm HXd.out (.of_keep hK HTd.out.s.out)); have qh1 : w5.cell? ⟨ob, 1, none⟩ = some (.int .i64 t.f0) := (blk_cell HO5.out 1).trans rfl; have qh2 : w5.cell? ⟨ob, 2, none⟩ = some (.int .i64 t.f1) := (blk_cell HO5.out 2).trans rfl; have qh3 : w5.cell? ⟨ob, 3, none⟩ = some (.slice A2 t.f2.length c2) := (blk_cell HO5.out 3).trans rfl; have qh4 : w5.cell? ⟨ob, 4, none⟩ = some (.slice A3 t.f3.length c3) := (blk_cell HO5.out 4).trans rfl; have qh5 : w5.cell? ⟨ob, 5, none⟩ = some (.slice A4 t.f4.length c4) := (blk_cell HO5.out 5).trans rfl; have qh6 : w5.cell? ⟨ob, 6, none⟩ = some (.slice A5 t.f5.length c5) := (blk_cell HO5.out 6).trans rfl; clear hQ hK hN)
      | (go_at_call 18; refine (rtake_is HT5.out.f HX5.out HOT.out).mono ?_; rintro e w6 ⟨B6, d6, rfl, hQ, hK, hN⟩; rw [HZ.out]; have HT6 := Lib.hid (HT5.out.goF hQ hK hN); have HO6 := Lib.hid ((hK.block ob (blk_lt HO5.out) (HNA.out ob (by have := HXO.out; omega)).2).trans HO5.out); have HA6 := Lib.hid ((hK.block xa (blk_lt HA5.out) (HNA.out xa (by have := HXO.out; omega)).2).trans HA5.out); have HB6 := Lib.hid ((hK.block xb (blk_lt HB5.out) (HNA.out xb (by have := HXO.out; omega)).2).trans HB5.out); have qi1 : w6.cell? ⟨ob, 1, none⟩ = some (.int .i64 t.f0) := (blk_cell HO6.out 1).trans rfl; have qi2 : w6.cell? ⟨ob, 2, none⟩ = some (.int .i64 t.f1) := (blk_cell HO6.out 2).trans rfl; have qi3 : w6.cell? ⟨ob, 3, none⟩ = some (.slice A2 t.f2.length c2) := (blk_cell HO6.out 3).trans rfl; have qi4 : w6.cell? ⟨ob, 4, none⟩ = some (.slice A3 t.f3.length c3) := (blk_cell HO6.out 4).trans rfl; have qi5 : w6.cell? ⟨ob, 5, none⟩ = some (.slice A4 t.f4.length c4) := (blk_cell HO6.out 5).trans rfl; have qi6 : w6.cell? ⟨ob, 6, none⟩ = some (.slice A5 t.f5.length c5) := (blk_cell HO6.out 6).trans rfl; clear hQ hK hN))
     go_wp2_with fail
     go_meet
     exact ⟨false, 0, 0, 0, [], none, 0, none, 0, rfl, rfl, ⟨_, _, _, _, _, _, _, _, rfl, HNJ2.out, HT6.out⟩, HA6.out, HB6.out, TR.nil _ _, TR.nil _ _⟩
    by_cases h1 : k0 = 1
    ·subst h1
     clear t0 t1 t2 t3 t4 t5 t6
     go_wp2_with fail
     refine (tick_is HT4.out.s).mono ?_
     rintro e w5 ⟨B5, d5, E5, rfl, hQ, hT, hK, hN, hE⟩
     obtain ⟨E7, e7, rfl, _⟩ := hT.slice
     have HT5 := Lib.hid (HT4.out.goS hQ hK hN)
     have HO5 := Lib.hid ((hK.block ob (blk_lt HO4.out) (HNA.out ob (by have := HXO.out; omega)).1).trans HO4.out); have HA5 := Lib.hid ((hK.block xa (blk_lt HA4.out) (HNA.out xa (by have := HXO.out; omega)).1).trans HA4.out); have HB5 := Lib.hid ((hK.block xb (blk_lt HB4.out) (HNA.out xb (by have := HXO.out; omega)).1).trans HB4.out)
     have HF5 := Lib.hid (show ¬ sqS g mp B5 xa ∧ ¬ sqS g mp B5 xb from ⟨sqS_off (HNA.out xa (by have := HXO.out; omega)).1 (blk_lt HA4.out) hN, sqS_off (HNA.out xb (by have := HXO.out; omega)).1 (blk_lt HB4.out) hN⟩)
     have HR5 := Lib.hid hT; have HE5 := Lib.hid hE
     obtain ⟨rr, hr⟩ : ∃ rr, qTick s = rr := ⟨_, rfl⟩
     have HQ := Lib.hid hr
     rw [hr] at HT5 HR5 HE5 ⊢
     clear hr hQ hT hK hN hE
     obtain ⟨s2, ⟨f0, f1, f2, f3⟩, is⟩ := rr
     have y0 : w5.cell? ⟨xa, 0, none⟩ = some (.int .i64 0) := (blk_cell HA5.out 0).trans rfl
     have zy0 : w5.frozen? ⟨xa, 0, none⟩ = false := blk_frozen HA5.out 0
     have y1 : w5.cell? ⟨xa, 1, none⟩ = some (.int .i64 0) := (blk_cell HA5.out 1).trans rfl
     have zy1 : w5.frozen? ⟨xa, 1, none⟩ = false := blk_frozen HA5.out 1
     have y2 : w5.cell? ⟨xa, 2, none⟩ = some (.int .i64 0) := (blk_cell HA5.out 2).trans rfl
     have zy2 : w5.frozen? ⟨xa, 2, none⟩ = false := blk_frozen HA5.out 2
     have y3 : w5.cell? ⟨xa, 3, none⟩ = some (.slice none 0 0) := (blk_cell HA5.out 3).trans rfl
     have zy3 : w5.frozen? ⟨xa, 3, none⟩ = false := blk_frozen HA5.out 3
     go_wp2_with fail
     have hks := ((((KeepS.refl (fun i => i = xa) w5).set (p := ⟨xa, 0, none⟩) (.inl rfl) (.int .i64 f0)).set (p := ⟨xa, 1, none⟩) (.inl rfl) (.int .i64 f1)).set (p := ⟨xa, 2, none⟩) (.inl rfl) (.int .i64 f2)).set (p := ⟨xa, 3, none⟩) (.inl rfl) (.slice E7 f3.length e7)
     have hbx : ((((w5.setCell ⟨xa, 0, none⟩ (.int .i64 f0)).setCell ⟨xa, 1, none⟩ (.int .i64 f1)).setCell ⟨xa, 2, none⟩ (.int .i64 f2)).setCell ⟨xa, 3, none⟩ (.slice E7 f3.length e7)).heap[xa]? = some (.cells #[.int .i64 f0, .int .i64 f1, .int .i64 f2, .slice E7 f3.length e7] 36) := blk_put (blk_put (blk_put (blk_put (HA5.out) 0 _ rfl) 1 _ rfl) 2 _ rfl) 3 _ rfl
     have HKS := Lib.hid hks; have HA6 := Lib.hid hbx
     clear hks hbx
     obtain ⟨w6, hw6⟩ : ∃ V, ((((w5.setCell ⟨xa, 0, none⟩ (.int .i64 f0)).setCell ⟨xa, 1, none⟩ (.int .i64 f1)).setCell ⟨xa, 2, none⟩ (.int .i64 f2)).setCell ⟨xa, 3, none⟩ (.slice E7 f3.length e7)) = V := ⟨_, rfl⟩
     rw [hw6] at HKS HA6 ⊢
     clear hw6 y0 zy0 y1 zy1 y2 zy2 y3 zy3
     have HNI := Lib.hid (show ∀ i, i = xa → ¬ Inn w.heap.size w5 i from fun i e => by subst e; exact not_inn (by have := HOB.out.2.2; have := HXO.out; omega) HA5.out en_not)
     have HT6 := Lib.hid (HT5.out.box HKS.out (by have := HOB.out.2.2; have := HXO.out; omega) (HNI.out _ rfl) HF5.out.1 (HNA.out xa (by have := HXO.out; omega)).2)
     have HB6 := Lib.hid ((HKS.out.block xb (blk_lt HB5.out) (by have := HXO.out; omega)).trans HB5.out)
     have HR6 := Lib.hid (HR5.out.keep HKS.out HNI.out (fun i hi e => by have := HE5.out i hi; have := blk_lt HA4.out; omega))
     clear HKS HNI
     refine (rtick_is HT6.out.f).mono ?_
     rintro e w7 ⟨B7, d7, E6, rfl, hQ, hT, hK, hN, hE⟩
     obtain ⟨E8, e8, rfl, _⟩ := hT.slice
     have HT7 := Lib.hid (HT6.out.goF hQ hK hN)
     have HA7 := Lib.hid ((hK.block xa (blk_lt HA6.out) (HNA.out xa (by have := HXO.out; omega)).2).trans HA6.out); have HB7 := Lib.hid ((hK.block xb (blk_lt HB6.out) (HNA.out xb (by have := HXO.out; omega)).2).trans HB6.out)
     have HF7 := Lib.hid (show ¬ sqS q q B7 xb from sqS_off (HNA.out xb (by have := HXO.out; omega)).2 (blk_lt HB6.out) hN)
     have HR7 := Lib.hid (HR6.out.keep hK HT6.out.f.out (fun i hi e => by have := HE5.out i hi; have := HT4.out.f.lt i e; omega))
     have HV7 := Lib.hid hT; have HE7 := Lib.hid hE
     rw [HQ.out] at HT7 HV7 HE7 ⊢
     clear hQ hT hK hN hE
     have y0 : w7.cell? ⟨xb, 0, none⟩ = some (.int .i64 0) := (blk_cell HB7.out 0).trans rfl
     have zy0 : w7.frozen? ⟨xb, 0, none⟩ = false := blk_frozen HB7.out 0
     have y1 : w7.cell? ⟨xb, 1, none⟩ = some (.int .i64 0) := (blk_cell HB7.out 1).trans rfl
     have zy1 : w7.frozen? ⟨xb, 1, none⟩ = false := blk_frozen HB7.out 1
     have y2 : w7.cell? ⟨xb, 2, none⟩ = some (.int .i64 0) := (blk_cell HB7.out 2).trans rfl
     have zy2 : w7.frozen? ⟨xb, 2, none⟩ = false := blk_frozen HB7.out 2
     have y3 : w7.cell? ⟨xb, 3, none⟩ = some (.slice none 0 0) := (blk_cell HB7.out 3).trans rfl
     have zy3 : w7.frozen? ⟨xb, 3, none⟩ = false := blk_frozen HB7.out 3
     go_wp2_with fail
     have hks := ((((KeepS.refl (fun i => i = xb) w7).set (p := ⟨xb, 0, none⟩) (.inl rfl) (.int .i64 f0)).set (p := ⟨xb, 1, none⟩) (.inl rfl) (.int .i64 f1)).set (p := ⟨xb, 2, none⟩) (.inl rfl) (.int .i64 f2)).set (p := ⟨xb, 3, none⟩) (.inl rfl) (.slice E8 f3.length e8)
     have hbx : ((((w7.setCell ⟨xb, 0, none⟩ (.int .i64 f0)).setCell ⟨xb, 1, none⟩ (.int .i64 f1)).setCell ⟨xb, 2, none⟩ (.int .i64 f2)).setCell ⟨xb, 3, none⟩ (.slice E8 f3.length e8)).heap[xb]? = some (.cells #[.int .i64 f0, .int .i64 f1, .int .i64 f2, .slice E8 f3.length e8] 36) := blk_put (blk_put (blk_put (blk_put (HB7.out) 0 _ rfl) 1 _ rfl) 2 _ rfl) 3 _ rfl
     have HKS := Lib.hid hks; have HB8 := Lib.hid hbx
     clear hks hbx
     obtain ⟨w8, hw8⟩ : ∃ V, ((((w7.setCell ⟨xb, 0, none⟩ (.int .i64 f0)).setCell ⟨xb, 1, none⟩ (.int .i64 f1)).setCell ⟨xb, 2, none⟩ (.int .i64 f2)).setCell ⟨xb, 3, none⟩ (.slice E8 f3.length e8)) = V := ⟨_, rfl⟩
     rw [hw8] at HKS HB8 ⊢
     clear hw8 y0 zy0 y1 zy1 y2 zy2 y3 zy3
     have HNI := Lib.hid (show ∀ i, i = xb → ¬ Inn w.heap.size w7 i from fun i e => by subst e; exact not_inn (by have := HOB.out.2.2; have := HXO.out; omega) HB7.out en_not)
     have HT8 := Lib.hid (HT7.out.box HKS.out (by have := HOB.out.2.2; have := HXO.out; omega) (HNI.out _ rfl) HF5.out.2 HF7.out)
     have HA8 := Lib.hid ((HKS.out.block xa (blk_lt HA7.out) (by have := HXO.out; omega)).trans HA7.out)
     have HR8 := Lib.hid (HR7.out.keep HKS.out HNI.out (fun i hi e => by have := HE5.out i hi; have := blk_lt HB4.out; omega))
     have HV8 := Lib.hid (HV7.out.keep HKS.out HNI.out (fun i hi e => by have := HE7.out i hi; have := blk_lt HB6.out; omega))
     clear HKS HNI
     go_meet
     exact ⟨is, f0, f1, f2, f3, E7, e7, E8, e8, rfl, rfl, ⟨_, _, _, _, _, _, _, _, rfl, HNJ3.out, HT8.out⟩, HA8.out, HB8.out, HR8.out, HV8.out⟩
    by_cases h2 : k0 = 2
    ·subst h2
     clear t0 t1 t2 t3 t4 t5 t6
     go_wp2_with fail
     refine (flush_is HT4.out.s).mono ?_
     rintro e w5 ⟨B5, d5, E5, rfl, hQ, hT, hK, hN, hE⟩
     obtain ⟨E7, e7, rfl, _⟩ := hT.slice
     have HT5 := Lib.hid (HT4.out.goS hQ hK hN)
     have HO5 := Lib.hid ((hK.block ob (blk_lt HO4.out) (HNA.out ob (by have := HXO.out; omega)).1).trans HO4.out); have HA5 := Lib.hid ((hK.block xa (blk_lt HA4.out) (HNA.out xa (by have := HXO.out; omega)).1).trans HA4.out); have HB5 := Lib.hid ((hK.block xb (blk_lt HB4.out) (HNA.out xb (by have := HXO.out; omega)).1).trans HB4.out)
     have HF5 := Lib.hid (show ¬ sqS g mp B5 xa ∧ ¬ sqS g mp B5 xb from ⟨sqS_off (HNA.out xa (by have := HXO.out; omega)).1 (blk_lt HA4.out) hN, sqS_off (HNA.out xb (by have := HXO.out; omega)).1 (blk_lt HB4.out) hN⟩)
     have HR5 := Lib.hid hT; have HE5 := Lib.hid hE
     obtain ⟨rr, hr⟩ : ∃ rr, qFlush s = rr := ⟨_, rfl⟩
     have HQ := Lib.hid hr
     rw [hr] at HT5 HR5 HE5 ⊢
     clear hr hQ hT hK hN hE
     obtain ⟨s2, ⟨f0, f1, f2, f3⟩, is⟩ := rr
     have y0 : w5.cell? ⟨xa, 0, none⟩ = some (.int .i64 0) := (blk_cell HA5.out 0).trans rfl
     have zy0 : w5.frozen? ⟨xa, 0, none⟩ = false := blk_frozen HA5.out 0
     have y1 : w5.cell? ⟨xa, 1, none⟩ = some (.int .i64 0) := (blk_cell HA5.out 1).trans rfl
     have zy1 : w5.frozen? ⟨xa, 1, none⟩ = false := blk_frozen HA5.out 1
     have y2 : w5.cell? ⟨xa, 2, none⟩ = some (.int .i64 0) := (blk_cell HA5.out 2).trans rfl
     have zy2 : w5.frozen? ⟨xa, 2, none⟩ = false := blk_frozen HA5.out 2
     have y3 : w5.cell? ⟨xa, 3, none⟩ = some (.slice none 0 0) := (blk_cell HA5.out 3).trans rfl
     have zy3 : w5.frozen? ⟨xa, 3, none⟩ = false := blk_frozen HA5.out 3
     go_wp2_with fail
     have hks := ((((KeepS.refl (fun i => i = xa) w5).set (p := ⟨xa, 0, none⟩) (.inl rfl) (.int .i64 f0)).set (p := ⟨xa, 1, none⟩) (.inl rfl) (.int .i64 f1)).set (p := ⟨xa, 2, none⟩) (.inl rfl) (.int .i64 f2)).set (p := ⟨xa, 3, none⟩) (.inl rfl) (.slice E7 f3.length e7)
     have hbx : ((((w5.setCell ⟨xa, 0, none⟩ (.int .i64 f0)).setCell ⟨xa, 1, none⟩ (.int .i64 f1)).setCell ⟨xa, 2, none⟩ (.int .i64 f2)).setCell ⟨xa, 3, none⟩ (.slice E7 f3.length e7)).heap[xa]? = some (.cells #[.int .i64 f0, .int .i64 f1, .int .i64 f2, .slice E7 f3.length e7] 36) := blk_put (blk_put (blk_put (blk_put (HA5.out) 0 _ rfl) 1 _ rfl) 2 _ rfl) 3 _ rfl
     have HKS := Lib.hid hks; have HA6 := Lib.hid hbx
     clear hks hbx
     obtain ⟨w6, hw6⟩ : ∃ V, ((((w5.setCell ⟨xa, 0, none⟩ (.int .i64 f0)).setCell ⟨xa, 1, none⟩ (.int .i64 f1)).setCell ⟨xa, 2, none⟩ (.int .i64 f2)).setCell ⟨xa, 3, none⟩ (.slice E7 f3.length e7)) = V := ⟨_, rfl⟩
     rw [hw6] at HKS HA6 ⊢
     clear hw6 y0 zy0 y1 zy1 y2 zy2 y3 zy3
     have HNI := Lib.hid (show ∀ i, i = xa → ¬ Inn w.heap.size w5 i from fun i e => by subst e; exact not_inn (by have := HOB.out.2.2; have := HXO.out; omega) HA5.out en_not)
     have HT6 := Lib.hid (HT5.out.box HKS.out (by have := HOB.out.2.2; have := HXO.out; omega) (HNI.out _ rfl) HF5.out.1 (HNA.out xa (by have := HXO.out; omega)).2)
     have HB6 := Lib.hid ((HKS.out.block xb (blk_lt HB5.out) (by have := HXO.out; omega)).trans HB5.out)
     have HR6 := Lib.hid (HR5.out.keep HKS.out HNI.out (fun i hi e => by have := HE5.out i hi; have := blk_lt HA4.out; omega))
     clear HKS HNI
     refine (rflush_is HT6.out.f).mono ?_
     rintro e w7 ⟨B7, d7, E6, rfl, hQ, hT, hK, hN, hE⟩
     obtain ⟨E8, e8, rfl, _⟩ := hT.slice
     have HT7 := Lib.hid (HT6.out.goF hQ hK hN)
     have HA7 := Lib.hid ((hK.block xa (blk_lt HA6.out) (HNA.out xa (by have := HXO.out; omega)).2).trans HA6.out); have HB7 := Lib.hid ((hK.block xb (blk_lt HB6.out) (HNA.out xb (by have := HXO.out; omega)).2).trans HB6.out)
     have HF7 := Lib.hid (show ¬ sqS q q B7 xb from sqS_off (HNA.out xb (by have := HXO.out; omega)).2 (blk_lt HB6.out) hN)
     have HR7 := Lib.hid (HR6.out.keep hK HT6.out.f.out (fun i hi e => by have := HE5.out i hi; have := HT4.out.f.lt i e; omega))
     have HV7 := Lib.hid hT; have HE7 := Lib.hid hE
     rw [HQ.out] at HT7 HV7 HE7 ⊢
     clear hQ hT hK hN hE
     have y0 : w7.cell? ⟨xb, 0, none⟩ = some (.int .i64 0) := (blk_cell HB7.out 0).trans rfl
     have zy0 : w7.frozen? ⟨xb, 0, none⟩ = false := blk_frozen HB7.out 0
     have y1 : w7.cell? ⟨xb, 1, none⟩ = some (.int .i64 0) := (blk_cell HB7.out 1).trans rfl
     have zy1 : w7.frozen? ⟨xb, 1, none⟩ = false := blk_frozen HB7.out 1
     have y2 : w7.cell? ⟨xb, 2, none⟩ = some (.int .i64 0) := (blk_cell HB7.out 2).trans rfl
     have zy2 : w7.frozen? ⟨xb, 2, none⟩ = false := blk_frozen HB7.out 2
     have y3 : w7.cell? ⟨xb, 3, none⟩ = some (.slice none 0 0) := (blk_cell HB7.out 3).trans rfl
     have zy3 : w7.frozen? ⟨xb, 3, none⟩ = false := blk_frozen HB7.out 3
     go_wp2_with fail
     have hks := ((((KeepS.refl (fun i => i = xb) w7).set (p := ⟨xb, 0, none⟩) (.inl rfl) (.int .i64 f0)).set (p := ⟨xb, 1, none⟩) (.inl rfl) (.int .i64 f1)).set (p := ⟨xb, 2, none⟩) (.inl rfl) (.int .i64 f2)).set (p := ⟨xb, 3, none⟩) (.inl rfl) (.slice E8 f3.length e8)
     have hbx : ((((w7.setCell ⟨xb, 0, none⟩ (.int .i64 f0)).setCell ⟨xb, 1, none⟩ (.int .i64 f1)).setCell ⟨xb, 2, none⟩ (.int .i64 f2)).setCell ⟨xb, 3, none⟩ (.slice E8 f3.length e8)).heap[xb]? = some (.cells #[.int .i64 f0, .int .i64 f1, .int .i64 f2, .slice E8 f3.length e8] 36) := blk_put (blk_put (blk_put (blk_put (HB7.out) 0 _ rfl) 1 _ rfl) 2 _ rfl) 3 _ rfl
     have HKS := Lib.hid hks; have HB8 := Lib.hid hbx
     clear hks hbx
     obtain ⟨w8, hw8⟩ : ∃ V, ((((w7.setCell ⟨xb, 0, none⟩ (.int .i64 f0)).setCell ⟨xb, 1, none⟩ (.int .i64 f1)).setCell ⟨xb, 2, none⟩ (.int .i64 f2)).setCell ⟨xb, 3, none⟩ (.slice E8 f3.length e8)) = V := ⟨_, rfl⟩
     rw [hw8] at HKS HB8 ⊢
     clear hw8 y0 zy0 y1 zy1 y2 zy2 y3 zy3
     have HNI := Lib.hid (show ∀ i, i = xb → ¬ Inn w.heap.size w7 i from fun i e => by subst e; exact not_inn (by have := HOB.out.2.2; have := HXO.out; omega) HB7.out en_not)
     have HT8 := Lib.hid (HT7.out.box HKS.out (by have := HOB.out.2.2; have := HXO.out; omega) (HNI.out _ rfl) HF5.out.2 HF7.out)
     have HA8 := Lib.hid ((HKS.out.block xa (blk_lt HA7.out) (by have := HXO.out; omega)).trans HA7.out)
     have HR8 := Lib.hid (HR7.out.keep HKS.out HNI.out (fun i hi e => by have := HE5.out i hi; have := blk_lt HB4.out; omega))
     have HV8 := Lib.hid (HV7.out.keep HKS.out HNI.out (fun i hi e => by have := HE7.out i hi; have := blk_lt HB6.out; omega))
     clear HKS HNI
     go_meet
     exact ⟨is, f0, f1, f2, f3, E7, e7, E8, e8, rfl, rfl, ⟨_, _, _, _, _, _, _, _, rfl, HNJ3.out, HT8.out⟩, HA8.out, HB8.out, HR8.out, HV8.out⟩
    by_cases h3 : k0 = 3
    ·subst h3
     clear t0 t1 t2 t3 t4 t5 t6
     go_wp2_with fail
     refine (qclone_is HT4.out.s).mono ?_
     rintro e w5 ⟨g2, mp2, B5, d5, rfl, hQ, hb, hN⟩
     have HQ5 := Lib.hid hQ; have HN5 := Lib.hid hN; have HT5 := Lib.hid (HT4.out.below hb)
     have HO5 := Lib.hid ((hb.block ob (blk_lt HO4.out)).trans HO4.out); have HA5 := Lib.hid ((hb.block xa (blk_lt HA4.out)).trans HA4.out); have HB5 := Lib.hid ((hb.block xb (blk_lt HB4.out)).trans HB4.out)
     clear hQ hb hN
     go_wp2_with fail
     refine (flush_is HT5.out.s).mono ?_
     rintro e w6 ⟨B6, d6, E6, rfl, hQ, hT, hK, hN, hE⟩
     have HT6 := Lib.hid (HT5.out.goS hQ hK hN)
     have HQ6 := Lib.hid (HQ5.out.keep hK HT5.out.s.out (fun i hi e => by have := HN5.out i hi; have := HT4.out.s.lt i e; omega))
     have HO6 := Lib.hid ((hK.block ob (blk_lt HO5.out) (HNA.out ob (by have := HXO.out; omega)).1).trans HO5.out); have HA6 := Lib.hid ((hK.block xa (blk_lt HA5.out) (HNA.out xa (by have := HXO.out; omega)).1).trans HA5.out); have HB6 := Lib.hid ((hK.block xb (blk_lt HB5.out) (HNA.out xb (by have := HXO.out; omega)).1).trans HB5.out)
     clear hQ hT hK hN hE
     go_wp2_with fail
     go_meet
     exact ⟨false, 0, 0, 0, [], none, 0, none, 0, rfl, rfl, ⟨g2, mp2, nb, s, B5, d5, A', c', rfl, HNJ3.out, HQ6.out, HT6.out.f, HT6.out.d, fun i e e' => by have := HN5.out i e; have := HT4.out.f.lt i e'; omega⟩, HA6.out, HB6.out, TR.nil _ _, TR.nil _ _⟩
    have q0 : (k0 == 0) = false := beq_eq_false_iff_ne.2 h0
    have q1 : (k0 == 1) = false := beq_eq_false_iff_ne.2 h1
    have q2 : (k0 == 2) = false := beq_eq_false_iff_ne.2 h2
    have q3 : (k0 == 3) = false := beq_eq_false_iff_ne.2 h3
    clear h0 h1 h2 h3
    go_wp2_with fail
    go_meet
    exact ⟨false, 0, 0, 0, [], none, 0, none, 0, rfl, rfl, ⟨_, _, _, _, _, _, _, _, rfl, HNJ3.out, HT4.out⟩, HA4.out, HB4.out, TR.nil _ _, TR.nil _ _⟩
   obtain ⟨b, k, f, n, le0, E, e, E', e', rfl, rfl, ⟨g, mp, nb, s, A, c, A', c', rfl, hnb, hT⟩, hA, hB, hE, hE'⟩ := hcut
   clear t0 t1 t2 t3 t4 t5 t6 HT4 HO4 HA4 HB4 HX4 HNA HIA HIB HNJ2 HNJ3 HNM HNJ HOB
   have h4 := refSameEn_is k f n E e le0 k f n E' e' le0 wc.drew (hE.below (Below.refl _ wc).drew).reads.2.2 (hE.below (Below.refl _ wc).drew).reads.2.1 (hE'.below (Below.refl _ wc).drew).reads.2.2 (hE'.below (Below.refl _ wc).drew).reads.2.1
   rw [eqEn_refl] at h4
   obtain ⟨le, hle⟩ : ∃ le, le0.length = le := ⟨_, rfl⟩
   rw [hle] at hA hB h4
   have HSE := Lib.hid h4; have HA5 := Lib.hid hA; have HB5 := Lib.hid hB; have HT5 := Lib.hid hT; have HN5 := Lib.hid hnb
   have hy := hT.f.y
   obtain ⟨ls, hls⟩ : ∃ ls, s.l.length = ls := ⟨_, rfl⟩
   obtain ⟨sn, hsn⟩ : ∃ sn, s.n = sn := ⟨_, rfl⟩
   obtain ⟨st, hst⟩ : ∃ st, s.t = st := ⟨_, rfl⟩
   have HLS := Lib.hid hls; have HSN := Lib.hid hsn; have HST := Lib.hid hst
   rw [hls, hsn, hst] at hy
   have HY5 := Lib.hid hy
   clear hle h4 hA hB hT hnb hE hE' hy hls hsn hst
   have q5 : ((ls : Int) != (ls : Int)) = false := by simp
   have q6 : (sn != sn) = false := by simp
   have q7 : (st != st) = false := by simp
   have q8 : (b != b) = false := by simp
   have u0 : wc.cell? ⟨xa, 0, none⟩ = some (.int .i64 k) := (blk_cell HA5.out 0).trans rfl; have u1 : wc.cell? ⟨xa, 1, none⟩ = some (.int .i64 f) := (blk_cell HA5.out 1).trans rfl; have u2 : wc.cell? ⟨xa, 2, none⟩ = some (.int .i64 n) := (blk_cell HA5.out 2).trans rfl; have u3 : wc.cell? ⟨xa, 3, none⟩ = some (.slice E le e) := (blk_cell HA5.out 3).trans rfl; have u4 : wc.cell? ⟨xb, 0, none⟩ = some (.int .i64 k) := (blk_cell HB5.out 0).trans rfl; have u5 : wc.cell? ⟨xb, 1, none⟩ = some (.int .i64 f) := (blk_cell HB5.out 1).trans rfl; have u6 : wc.cell? ⟨xb, 2, none⟩ = some (.int .i64 n) := (blk_cell HB5.out 2).trans rfl; have u7 : wc.cell? ⟨xb, 3, none⟩ = some (.slice E' le e') := (blk_cell HB5.out 3).trans rfl; have u8 : wc.cell? ⟨q, 1, none⟩ = some (.slice A' ls c') := (blk_cell HY5.out 1).trans rfl; have u9 : wc.cell? ⟨q, 2, none⟩ = some (.int .i64 sn) := (blk_cell HY5.out 2).trans rfl; have u10 : wc.cell? ⟨q, 3, none⟩ = some (.int .i64 st) := (blk_cell HY5.out 3).trans rfl
   go_wp2_with fail
   go_region_held3 (fun w' => w'.cell? ⟨xa, 0, none⟩ = some (.int .i64 k) ∧ w'.cell? ⟨xa, 1, none⟩ = some (.int .i64 f) ∧ w'.cell? ⟨xa, 2, none⟩ = some (.int .i64 n) ∧ w'.cell? ⟨xa, 3, none⟩ = some (.slice E le e) ∧ w'.cell? ⟨xb, 0, none⟩ = some (.int .i64 k) ∧ w'.cell? ⟨xb, 1, none⟩ = some (.int .i64 f) ∧ w'.cell? ⟨xb, 2, none⟩ = some (.int .i64 n) ∧ w'.cell? ⟨xb, 3, none⟩ = some (.slice E' le e') ∧ w'.cell? ⟨q, 1, none⟩ = some (.slice A' ls c') ∧ w'.cell? ⟨q, 2, none⟩ = some (.int .i64 sn) ∧ w'.cell? ⟨q, 3, none⟩ = some (.int .i64 st)) (go_keep) (first
    | (go_at_call 22; refine HSE.out.mono ?_; rintro e2 w6 ⟨rfl, hb⟩; have hb0 := (Below.refl wc.heap.size wc).drew.trans hb; have HT6 := Lib.hid (HT5.out.below hb0); have HA6 := Lib.hid ((hb0.block xa (blk_lt HA5.out)).trans HA5.out); have HB6 := Lib.hid ((hb0.block xb (blk_lt HB5.out)).trans HB5.out); have HY6 := Lib.hid ((hb0.block q (blk_lt HY5.out)).trans HY5.out); have HL6 := Lib.hid (len_is HT6.out.s); have v0 : w6.cell? ⟨xa, 0, none⟩ = some (.int .i64 k) := (blk_cell HA6.out 0).trans rfl; have v1 : w6.cell? ⟨xa, 1, none⟩ = some (.int .i64 f) := (blk_cell HA6.out 1).trans rfl; have v2 : w6.cell? ⟨xa, 2, none⟩ = some (.int .i64 n) := (blk_cell HA6.out 2).trans rfl; have v3 : w6.cell? ⟨xa, 3, none⟩ = some (.slice E le e) := (blk_cell HA6.out 3).trans rfl; have v4 : w6.cell? ⟨xb, 0, none⟩ = some (.int .i64 k) := (blk_cell HB6.out 0).trans rfl; have v5 : w6.cell? ⟨xb, 1, none⟩ = some (.int .i64 f) := (blk_cell HB6.out 1).trans rfl; have v6 : w6.cell? ⟨xb, 2, none⟩ = some (.int .i64 n) := (blk_cell HB6.out 2).trans rfl; have v7 : w6.cell? ⟨xb, 3, none⟩ = some (.slice E' le e') := (blk_cell HB6.out 3).trans rfl; have v8 : w6.cell? ⟨q, 1, none⟩ = some (.slice A' ls c') := (blk_cell HY6.out 1).trans rfl; have v9 : w6.cell? ⟨q, 2, none⟩ = some (.int .i64 sn) := (blk_cell HY6.out 2).trans rfl; have v10 : w6.cell? ⟨q, 3, none⟩ = some (.int .i64 st) := (blk_cell HY6.out 3).trans rfl; clear hb hb0; rw [HLS.out] at HL6)
    | (go_at_call 11; refine HL6.out.mono ?_; rintro e2 w7 ⟨rfl, rfl⟩)
    | (go_at_call 25; refine (number_is HT6.out.s).mono ?_; rintro e2 w8 ⟨rfl, rfl⟩; rw [HSN.out])
    | (go_at_call 26; refine (epoch_is HT6.out.s).mono ?_; rintro e2 w9 ⟨rfl, rfl⟩; rw [HST.out]))
   go_wp2_with fail
   go_roundw
   case rel => exact ⟨j + 1, by go_num, HLT.out, g, mp, nb, s, A, c, A', c', rfl, HN5.out, HT6.out⟩
   case measure => have := HLT.out; simp [intOf]; omega
  ·obtain rfl : j = l.length := by omega
   have q1 : decide (l.length < l.length) = false := decide_eq_false hlt
   clear hlt
   go_wp2_with fail
   have HTd := Lib.hid (HTr.out.below (Below.refl _ wr).drew)
   obtain ⟨ls, hls⟩ : ∃ ls, s.l.length = ls := ⟨_, rfl⟩
   have HLS := Lib.hid hls
   have u1 : wr.cell? ⟨q, 1, none⟩ = some (.slice A' ls c') := by rw [← hls]; exact (blk_cell HTr.out.f.y 1).trans rfl
   clear hls
   go_region_held3 (fun w' => w'.cell? ⟨q, 1, none⟩ = some (.slice A' ls c')) (go_keep) (first
    | (go_at_call 19; refine (waiting_is HTd.out.s).mono ?_; rintro e w5 ⟨lb, B5, d5, rfl, hl, hW, hb⟩; have HLB := Lib.hid hl; have HW := Lib.hid hW; have HT5 := Lib.hid (HTd.out.below hb); have v1 : w5.cell? ⟨q, 1, none⟩ = some (.slice A' ls c') := (blk_cell HT5.out.f.y 1).trans (by rw [← HLS.out]; rfl); clear hl hW hb)
    | (go_at_call 27; refine (collect_txs HLB.out HW.out (fun t ht => (HT5.out.s.o.a t ht).2) HT5.out.s.o.m HT5.out.le).mono ?_; rintro e w6 ⟨B6, d6, rfl, hW, hb⟩; have HT6 := Lib.hid (HT5.out.below hb); have h4 := eqFunc_is (c := d6) (c' := c') hW.reads.2.2 HT6.out.f.r.reads.2.2; rw [eqTs_refl, HLS.out] at h4; have H6 := Lib.hid h4; have v2 : w6.cell? ⟨q, 1, none⟩ = some (.slice A' ls c') := (blk_cell HT6.out.f.y 1).trans (by rw [← HLS.out]; rfl); rw [HLS.out]; clear hW hb h4)
    | (go_at_call 14; refine H6.out.mono ?_; rintro e w7 ⟨rfl, hb⟩; have HT7 := Lib.hid (HT6.out.below hb); have v3 : w7.cell? ⟨q, 1, none⟩ = some (.slice A' ls c') := (blk_cell HT7.out.f.y 1).trans (by rw [← HLS.out]; rfl); clear hb))
   go_wp2_with fail
   go_ret
   exact ⟨rfl, HT7.out.d⟩
  end Go.Proofs.Ytgmlpmdfkaadhaa.M
end
