/- SequencerOwnUptoSaid: contracts of the functions that the law goes through, put together in build order (part 5 of 5). -/
import Derived.Test.YtgmlpmdfkaadhaaPart3
import Derived.Shelf.SlMaps.Clone
import Derived.Lib.Hide
import Derived.RangeFuncNested
import Derived.RangeFuncBound
import Derived.RangeFuncCalls
import Derived.RangeFuncLeaves
import Derived.RangeFuncBox
import Derived.Shelf.Abstract
import Derived.WalkKit
import Derived.OwnWalkIn
import Derived.TacticsInMore
import Derived.LoopNIn
import Derived.LoopIn
set_option linter.unusedVariables false
set_option linter.unusedSimpArgs false
set_option maxRecDepth 100000
section
-- Written by a program of this session's (wip/gprint.py over the kit's printer).
namespace Go.Proofs.Ytgmlpmdfkaadhaa.G
open Go.RowKit Go.Proofs.YtgmlpmdfkaadhaaW.PrintWords Go.Proofs.YtgmlpmdfkaadhaaW.PrintLast Go.Proofs.YtgmlpmdfkaadhaaW.PrintMore
attribute [local go_sem] max2_int min2_int max_two min_two max_three min_three max_four min_four   -- for this text's walks alone
def trivetref04_EntryForm.l0 : Nat → List Int → Int → Int → Int → Int → List (S32) → Option (List Int)
 | 0, _, _, _, _, _, _ => none
 | k + 1, x3, x4, x255000, x255001, x255002, x255003 => if x4 < (x255003.length : Int) then (if 0 ≤ x4 then ((trivetref04_TxnForm.f k ((rd_T32 x255003 x4).f0) ((rd_T32 x255003 x4).f1) ((rd_T32 x255003 x4).f2) ((rd_T32 x255003 x4).f3) ((rd_T32 x255003 x4).f4) ((rd_T32 x255003 x4).f5)).bind fun t268 => (if x3.length + t268.length < 140737488355328 then (trivetref04_EntryForm.l0 k (x3 ++ t268) (wrap64 (x4 + 1)) x255000 x255001 x255002 x255003) else (none))) else (none)) else (some x3)
def trivetref04_EntryForm.f (k : Nat) (a0_0 : Int) (a0_1 : Int) (a0_2 : Int) (l0_3 : List (S32)) : Option (List Int) := (trivetref04_num.f k ([] : List Int) (([a0_0] : List Int))).bind fun t258 => (if a0_0 = 1 then ((trivetref04_num.f k t258 (([a0_1, a0_2, (l0_3.length : Int)] : List Int))).bind fun t264 => (trivetref04_EntryForm.l0 k t264 0 a0_0 a0_1 a0_2 l0_3)) else (some t258))
set_option maxHeartbeats 8000000 in
set_option maxRecDepth 100000 in
theorem trivetref04_EntryForm.calls (k : Nat) (a0_0 : Int) (a0_1 : Int) (a0_2 : Int) (A0_3 : Option Addr) (c0_3 : Nat) (l0_3 : List (S32)) (r : List Int) (w : World) (hr0_3 : Kd.C k32 w A0_3 l0_3.length l0_3) (hc0_3 : l0_3.length ≤ c0_3) (h : trivetref04_EntryForm.f k a0_0 a0_1 a0_2 l0_3 = some r) :
  Calls Try.prog 32 #[.agg #[.int .i64 a0_0, .int .i64 a0_1, .int .i64 a0_2, .slice A0_3 l0_3.length c0_3]] w fun e w' => ∃ v0_ : Value, e = .returned (v0_) ∧ Kd.R (Kd.int .u8) 5 w' w.heap.size (fun _ => True) v0_ r ∧ Below w.heap.size w w' := by
 have hu36 := Try.underlying36
 have hu32 := Try.underlying32
 have HR0_3 := Aside0.mk hr0_3
 have HC0_3 := Aside0.mk hc0_3
 clear hr0_3 hc0_3
 have HB := Aside0.mk (Below.refl w.heap.size w)
 have H : ((trivetref04_num.f k ([] : List Int) (([a0_0] : List Int))).bind fun t258 => (if a0_0 = 1 then ((trivetref04_num.f k t258 (([a0_1, a0_2, (l0_3.length : Int)] : List Int))).bind fun t264 => (trivetref04_EntryForm.l0 k t264 0 a0_0 a0_1 a0_2 l0_3)) else (some t258))) = some r := h
 clear h
 obtain ⟨y255, hy255⟩ : ∃ y_ : List Int, y_ = (([a0_0] : List Int)) := ⟨_, rfl⟩
 replace H : ((trivetref04_num.f k ([] : List Int) y255).bind fun t258 => (if a0_0 = 1 then ((trivetref04_num.f k t258 (([a0_1, a0_2, (l0_3.length : Int)] : List Int))).bind fun t264 => (trivetref04_EntryForm.l0 k t264 0 a0_0 a0_1 a0_2 l0_3)) else (some t258))) = some r := by first | (rw [hy255]; with_reducible exact H) | (have H2_ := (Option.bind_some _ _).symm.trans H; rw [hy255]; with_reducible exact H2_) | (have H2_ := (Option.bind_some _ _).symm.trans H; with_reducible exact H2_) | with_reducible exact H | (rw [hy255]; exact H) | exact H
 have Ny255 := Aside0.mk hy255
 clear hy255
 replace H := Option.bind_eq_some_iff.mp H
 obtain ⟨t258, A20, H⟩ := H
 replace H : (if a0_0 = 1 then ((trivetref04_num.f k t258 (([a0_1, a0_2, (l0_3.length : Int)] : List Int))).bind fun t264 => (trivetref04_EntryForm.l0 k t264 0 a0_0 a0_1 a0_2 l0_3)) else (some t258)) = some r := H
 have A2 := Aside0.mk A20
 clear A20
 by_cases c3 : a0_0 = 1
 ·rw [if_pos c3] at H
  have c3b0 : (a0_0 == 1) = true := beq_iff_eq.mpr c3
  have c3b1 : (a0_0 != 1) = false := bne_eq_false_iff_eq.mpr c3
  clear c3
  obtain ⟨y261, hy261⟩ : ∃ y_ : List Int, y_ = (([a0_1, a0_2, (l0_3.length : Int)] : List Int)) := ⟨_, rfl⟩
  replace H : ((trivetref04_num.f k t258 y261).bind fun t264 => (trivetref04_EntryForm.l0 k t264 0 a0_0 a0_1 a0_2 l0_3)) = some r := by first | (rw [hy261]; with_reducible exact H) | (have H2_ := (Option.bind_some _ _).symm.trans H; rw [hy261]; with_reducible exact H2_) | (have H2_ := (Option.bind_some _ _).symm.trans H; with_reducible exact H2_) | with_reducible exact H | (rw [hy261]; exact H) | exact H
  have Ny261 := Aside0.mk hy261
  clear hy261
  replace H := Option.bind_eq_some_iff.mp H
  obtain ⟨t264, A40, H⟩ := H
  replace H : (trivetref04_EntryForm.l0 k t264 0 a0_0 a0_1 a0_2 l0_3) = some r := H
  have A4 := Aside0.mk A40
  clear A40
  have H' := Aside0.mk H
  clear H
  go_enter Try.func32, Try.ntmps32
  go_wp2_with (first | ((with_reducible refine gate_dst (N := 1) rfl ?_); refine box_event ?hg (N := 1) ?hd (cs := #[.int .i64 a0_0, .int .i64 a0_1, .int .i64 a0_2, .slice A0_3 l0_3.length c0_3]) (t := 36) ?hr ?_; (case hd => rfl); (case hg => rfl); (case hr => first | (go_simp; done) | (go_simp; rfl)); intro gb254 hg w5 hbox hb; have n0_ := Aside0.mk (below_step (stB HB.out) hb); have n1_ := Aside0.mk (hbox); have n2_ := Aside0.mk ((by rw [hg]; exact (below_size (stB HB.out)) : w.heap.size ≤ gb254)); have n3_ := Aside0.mk ((by rw [hg]; exact (below_size (stB HB.out)) : w.heap.size ≤ gb254)); clear HB; have HB := n0_; have BK254 := n1_; have GW254 := n2_; have GE254 := n3_; clear n0_ n1_ n2_ n3_; clear hb hbox hg; obtain ⟨hcz6_0, hcz6_1, hcz6_2, hcz6_3⟩ := bc4 BK254.out; obtain ⟨hfz6_0, hfz6_1, hfz6_2, hfz6_3⟩ := bf4 BK254.out) | ((with_reducible refine gate_dst (N := 7) rfl ?_); refine Kd.R_lit (Kd.int .i64) _ 2 ?hg (N := 7) ?hd (xs := ([a0_0] : List Int)) (inner := [.int .i64 a0_0]) (ok := fun _ => True) (okp := fun _ => True) ?hr ?hp (fun _ hk => hk) trivial (Below.refl _ _) (Nat.le_refl _) (by simp) ?_; (case hd => rfl); (case hg => rfl); (case hr => first | (go_simp; done) | (go_simp; rfl)); (case hp => exact (Reps.one (show Kd.M (Kd.int .i64) _ _ _ a0_0 [.int .i64 a0_0] from rfl) (Reps.none _ _))); intro v256 w7 ho8 hb hg_ hnew_; clear hg_ hnew_; (first | rw [← Ny255.out] at ho8 | (simp only [Int.reduceToNat] at ho8; rw [← Ny255.out] at ho8)); have n0_ := Aside0.mk (Kd.R_lower ho8 (below_size (by repeat (first | (with_reducible first | exact HB.out | apply below_alloc | apply pw_below_drewN | apply below_drew1 | refine below_set ?_ GE254.out) | exact HB.out)))); have n1_ := Aside0.mk (blk_below (g := gb254) (o := .cells #[.int .i64 a0_0, .int .i64 a0_1, .int .i64 a0_2, .slice A0_3 l0_3.length c0_3] 36 (0, 0)) (stK BK254.out) hb); have n2_ := Aside0.mk (below_step (by repeat (first | (with_reducible first | exact HB.out | apply below_alloc | apply pw_below_drewN | apply below_drew1 | refine below_set ?_ GE254.out) | exact HB.out)) hb); clear BK254; clear HB; have HO257 := n0_; have BK254 := n1_; have HB := n2_; clear n0_ n1_ n2_; clear hb ho8; obtain ⟨Ao9, co9, eo9⟩ := Kd.R_slice HO257.out; subst eo9) | ((with_reducible refine gate_callee (f := 51) rfl ?_); refine goesL_ (some 8) rfl rfl Try.func51 (by kernel_rfl) rfl #[.slice none 0 0, .slice Ao9 y255.length co9] rfl (by (try simp only [List.map_toArray, List.map_cons, List.map_nil]); first | done | rfl | (simp only [List.length_drop, List.length_take]; rfl)) ?_; (refine (trivetref04_num.calls k _ _ ([] : List Int) _ _ y255 t258 _ ?side1 ?side2 ?side3 ?side4 A2.out).mono ?_); (case side1 => exact Kd.C_nil _ _); (case side2 => exact Nat.le_refl _); (case side3 => exact stC ((Kd.R_reads' HO257.out).2.2)); (case side4 => exact (Kd.R_reads' HO257.out).2.1); rintro e w10 ⟨v259, rfl, ho0, hb⟩; refine ⟨_, rfl, ?_⟩; have n0_ := Aside0.mk (Kd.R_below (stR HO257.out) hb); have n1_ := Aside0.mk (Kd.R_lower ho0 (below_size (by repeat (first | (with_reducible first | exact HB.out | apply below_alloc | apply pw_below_drewN | apply below_drew1 | refine below_set ?_ GE254.out) | exact HB.out)))); have n2_ := Aside0.mk (blk_below (g := gb254) (o := .cells #[.int .i64 a0_0, .int .i64 a0_1, .int .i64 a0_2, .slice A0_3 l0_3.length c0_3] 36 (0, 0)) (stK BK254.out) hb); have n3_ := Aside0.mk (below_step (by repeat (first | (with_reducible first | exact HB.out | apply below_alloc | apply pw_below_drewN | apply below_drew1 | refine below_set ?_ GE254.out) | exact HB.out)) hb); clear HO257; clear BK254; clear HB; have HO257 := n0_; have HO260 := n1_; have BK254 := n2_; have HB := n3_; clear n0_ n1_ n2_ n3_; (try clear hb); (try clear hb2); (try clear hk); (try clear hi); (try clear ho0); obtain ⟨hcz11_0, hcz11_1, hcz11_2, hcz11_3⟩ := bc4 BK254.out; obtain ⟨hfz11_0, hfz11_1, hfz11_2, hfz11_3⟩ := bf4 BK254.out) | ((with_reducible refine gate_dst (N := 21) rfl ?_); refine Kd.R_lit (Kd.int .i64) _ 2 ?hg (N := 21) ?hd (xs := ([a0_1, a0_2, (l0_3.length : Int)] : List Int)) (inner := [.int .i64 a0_1, .int .i64 a0_2, .int .i64 (l0_3.length : Int)]) (ok := fun _ => True) (okp := fun _ => True) ?hr ?hp (fun _ hk => hk) trivial (Below.refl _ _) (Nat.le_refl _) (by simp) ?_; (case hd => rfl); (case hg => rfl); (case hr => first | (go_simp; done) | (go_simp; rfl)); (case hp => exact (Reps.one (show Kd.M (Kd.int .i64) _ _ _ a0_1 [.int .i64 a0_1] from rfl) (Reps.one (show Kd.M (Kd.int .i64) _ _ _ a0_2 [.int .i64 a0_2] from rfl) (Reps.one (show Kd.M (Kd.int .i64) _ _ _ (l0_3.length : Int) [.int .i64 (l0_3.length : Int)] from rfl) (Reps.none _ _))))); intro v262 w12 ho13 hb hg_ hnew_; clear hg_ hnew_; (first | rw [← Ny261.out] at ho13 | (simp only [Int.reduceToNat] at ho13; rw [← Ny261.out] at ho13)); have n0_ := Aside0.mk (Kd.R_elder' (stR HO257.out) (Kd.R_base ho13) hb); have n1_ := Aside0.mk (Kd.R_below (stR HO260.out) hb); have n2_ := Aside0.mk (Kd.R_lower (Kd.R_new' ho13 (Kd.R_lt (stR HO257.out))) (below_size (by repeat (first | (with_reducible first | exact HB.out | apply below_alloc | apply pw_below_drewN | apply below_drew1 | refine below_set ?_ GE254.out) | exact HB.out)))); have n3_ := Aside0.mk (blk_below (g := gb254) (o := .cells #[.int .i64 a0_0, .int .i64 a0_1, .int .i64 a0_2, .slice A0_3 l0_3.length c0_3] 36 (0, 0)) (stK BK254.out) hb); have n4_ := Aside0.mk (below_step (by repeat (first | (with_reducible first | exact HB.out | apply below_alloc | apply pw_below_drewN | apply below_drew1 | refine below_set ?_ GE254.out) | exact HB.out)) hb); clear HO257; clear HO260; clear BK254; clear HB; have HO257 := n0_; have HO260 := n1_; have HO263 := n2_; have BK254 := n3_; have HB := n4_; clear n0_ n1_ n2_ n3_ n4_; clear hb ho13; obtain ⟨Ao14, co14, eo14⟩ := Kd.R_slice HO260.out; subst eo14; obtain ⟨Ao15, co15, eo15⟩ := Kd.R_slice HO263.out; subst eo15) | ((with_reducible refine gate_callee (f := 51) rfl ?_); refine goesL_ (some 22) rfl rfl Try.func51 (by kernel_rfl) rfl #[.slice Ao14 t258.length co14, .slice Ao15 y261.length co15] rfl (by (try simp only [List.map_toArray, List.map_cons, List.map_nil]); first | done | rfl | (simp only [List.length_drop, List.length_take]; rfl)) ?_; (with_reducible refine (trivetref04_num.calls k _ _ t258 _ _ y261 t264 _ ?side1 ?side2 ?side3 ?side4 A4.out).mono ?_); (case side1 => exact stC ((Kd.R_reads' HO260.out).2.2)); (case side2 => exact (Kd.R_reads' HO260.out).2.1); (case side3 => exact stC ((Kd.R_reads' HO263.out).2.2)); (case side4 => exact (Kd.R_reads' HO263.out).2.1); rintro e w16 ⟨v265, rfl, ho0, hb⟩; refine ⟨_, rfl, ?_⟩; have n0_ := Aside0.mk (Kd.R_below (stR HO257.out) hb); have n1_ := Aside0.mk (Kd.R_elder' (stR HO260.out) (Kd.R_base ho0) hb); have n2_ := Aside0.mk (Kd.R_below (stR HO263.out) hb); have n3_ := Aside0.mk (Kd.R_lower (Kd.R_new' ho0 (Kd.R_lt (stR HO260.out))) (below_size (by repeat (first | (with_reducible first | exact HB.out | apply below_alloc | apply pw_below_drewN | apply below_drew1 | refine below_set ?_ GE254.out) | exact HB.out)))); have n4_ := Aside0.mk (blk_below (g := gb254) (o := .cells #[.int .i64 a0_0, .int .i64 a0_1, .int .i64 a0_2, .slice A0_3 l0_3.length c0_3] 36 (0, 0)) (stK BK254.out) hb); have n5_ := Aside0.mk (below_step (by repeat (first | (with_reducible first | exact HB.out | apply below_alloc | apply pw_below_drewN | apply below_drew1 | refine below_set ?_ GE254.out) | exact HB.out)) hb); clear HO257; clear HO260; clear HO263; clear BK254; clear HB; have HO257 := n0_; have HO260 := n1_; have HO263 := n2_; have HO266 := n3_; have BK254 := n4_; have HB := n5_; clear n0_ n1_ n2_ n3_ n4_ n5_; (try clear hb); (try clear hb2); (try clear hk); (try clear hi); (try clear ho0)))
  go_loopg [3, 4] k (fun kq v3 v4 w' => ∃ (x3_1 : List Int) (x4_1 : Int), v4 = .int .i64 x4_1 ∧ Aside0 (trivetref04_EntryForm.l0 kq x3_1 x4_1 a0_0 a0_1 a0_2 l0_3 = some r) ∧ Aside0 (kq ≤ k) ∧ Aside0 (Kd.R (Kd.int .u8) 5 w' w.heap.size (fun _ => True) v3 x3_1) ∧ Aside0 (w'.heap[gb254]? = some (.cells #[.int .i64 a0_0, .int .i64 a0_1, .int .i64 a0_2, (.slice A0_3 l0_3.length c0_3)] 36 (0, 0))) ∧ Aside0 (Below w.heap.size w w'))
  case atStart => exact ⟨(t264), (0), (by first | rfl | (simp; done) | (simp [*]; done)), H', ⟨Nat.le_refl _⟩, ⟨by (with_reducible repeat (first|apply Kd.R_alloc | apply Kd.R_drewN | apply Kd.R_drew)); exact Kd.R_mono HO266.out (fun _ hk => trivial)⟩, ⟨stK BK254.out⟩, ⟨by repeat (first | (with_reducible first | exact HB.out | apply below_alloc | apply pw_below_drewN | apply below_drew1 | refine below_set ?_ GE254.out) | exact HB.out)⟩⟩
  case round =>
   clear H'
   try clear p2
   try clear c3
   try clear c3b0
   try clear c3b1
   try clear c5
   try clear hcz11_0
   try clear hcz11_1
   try clear hcz11_2
   try clear hcz11_3
   try clear hcz6_0
   try clear hcz6_1
   try clear hcz6_2
   try clear hcz6_3
   try clear hfz11_0
   try clear hfz11_1
   try clear hfz11_2
   try clear hfz11_3
   try clear hfz6_0
   try clear hfz6_1
   try clear hfz6_2
   try clear hfz6_3
   obtain ⟨x3_1, x4_1, rfl, HA, HK1, HO_3, BK254, HB⟩ := hrel
   cases gk with
   | zero => exact absurd HA.out (by simp [trivetref04_EntryForm.l0])
   | succ k1 =>
    have H := HA.out
    clear HA
    simp only [trivetref04_EntryForm.l0] at H
    by_cases c17 : x4_1 < (l0_3.length : Int)
    ·rw [if_pos c17] at H
     have c17b0 : decide (x4_1 < (l0_3.length : Int)) = true := decide_eq_true c17
     clear c17
     by_cases c18 : 0 ≤ x4_1
     ·rw [if_pos c18] at H
      have c18b0 : decide (0 ≤ x4_1) = true := decide_eq_true c18
      clear c18
      replace H := Option.bind_eq_some_iff.mp H
      obtain ⟨t268, A190, H⟩ := H
      replace H : (if x3_1.length + t268.length < 140737488355328 then (trivetref04_EntryForm.l0 k1 (x3_1 ++ t268) (wrap64 (x4_1 + 1)) a0_0 a0_1 a0_2 l0_3) else (none)) = some r := H
      have A19 := Aside0.mk A190
      clear A190
      by_cases c20 : x3_1.length + t268.length < 140737488355328
      ·rw [if_pos c20] at H
       have LMc20 := Aside0.mk c20
       clear c20
       obtain ⟨y271, hy271⟩ : ∃ y_ : List Int, y_ = (x3_1 ++ t268) := ⟨_, rfl⟩
       replace H : (trivetref04_EntryForm.l0 k1 y271 (wrap64 (x4_1 + 1)) a0_0 a0_1 a0_2 l0_3) = some r := by first | (rw [hy271]; with_reducible exact H) | (have H2_ := (Option.bind_some _ _).symm.trans H; rw [hy271]; with_reducible exact H2_) | (have H2_ := (Option.bind_some _ _).symm.trans H; with_reducible exact H2_) | with_reducible exact H | (rw [hy271]; exact H) | exact H
       have Ny271 := Aside0.mk hy271
       clear hy271
       have H' := Aside0.mk H
       clear H
       obtain ⟨hcz21_0, hcz21_1, hcz21_2, hcz21_3⟩ := bc4 BK254.out
       obtain ⟨hfz21_0, hfz21_1, hfz21_2, hfz21_3⟩ := bf4 BK254.out
       have p267 : 0 ≤ (x4_1 : Int) := of_decide_eq_true (by first | (with_reducible assumption) | assumption)
       have q267 : x4_1 < (l0_3.length : Int) := of_decide_eq_true (by first | (with_reducible assumption) | assumption)
       obtain ⟨ad267, A267_2, c267_2, A267_3, c267_3, A267_4, c267_4, A267_5, c267_5, e267, hx267_0, hx267_1, hx267_2, hx267_3, hx267_4, hx267_5, hl267_2, hi267_2, hl267_3, hi267_3, hl267_4, hi267_4, hl267_5, hi267_5⟩ := at_T32 HR0_3.out x4_1 p267 q267
       cases e267
       replace hx267_0 := cu HB.out hx267_0
       replace hx267_1 := cu HB.out hx267_1
       replace hx267_2 := cu HB.out hx267_2
       replace hx267_3 := cu HB.out hx267_3
       replace hx267_4 := cu HB.out hx267_4
       replace hx267_5 := cu HB.out hx267_5
       have HR267_2 := Aside0.mk hi267_2
       have HC267_2 := Aside0.mk hl267_2
       clear hi267_2 hl267_2
       have HR267_3 := Aside0.mk hi267_3
       have HC267_3 := Aside0.mk hl267_3
       clear hi267_3 hl267_3
       have HR267_4 := Aside0.mk hi267_4
       have HC267_4 := Aside0.mk hl267_4
       clear hi267_4 hl267_4
       have HR267_5 := Aside0.mk hi267_5
       have HC267_5 := Aside0.mk hl267_5
       clear hi267_5 hl267_5
       replace p267 := eq_true p267
       replace q267 := eq_true q267
       go_wp2_with (first | ((with_reducible refine gate_callee (f := 52) rfl ?_); refine goesL_ (some 36) rfl rfl Try.func52 (by kernel_rfl) rfl #[.agg #[.int .i64 ((rd_T32 l0_3 x4_1).f0), .int .i64 ((rd_T32 l0_3 x4_1).f1), .slice A267_2 ((rd_T32 l0_3 x4_1).f2).length c267_2, .slice A267_3 ((rd_T32 l0_3 x4_1).f3).length c267_3, .slice A267_4 ((rd_T32 l0_3 x4_1).f4).length c267_4, .slice A267_5 ((rd_T32 l0_3 x4_1).f5).length c267_5]] rfl (by (try simp only [List.map_toArray, List.map_cons, List.map_nil]); first | done | rfl | (simp only [List.length_drop, List.length_take]; rfl)) ?_; (with_reducible refine (trivetref04_TxnForm.calls k1 ((rd_T32 l0_3 x4_1).f0) ((rd_T32 l0_3 x4_1).f1) _ _ ((rd_T32 l0_3 x4_1).f2) _ _ ((rd_T32 l0_3 x4_1).f3) _ _ ((rd_T32 l0_3 x4_1).f4) _ _ ((rd_T32 l0_3 x4_1).f5) t268 _ ?side1 ?side2 ?side3 ?side4 ?side5 ?side6 ?side7 ?side8 A19.out).mono ?_); (case side1 => exact stC (Kd.C_below HR267_2.out HB.out)); (case side2 => exact HC267_2.out); (case side3 => exact stC (Kd.C_below HR267_3.out HB.out)); (case side4 => exact HC267_3.out); (case side5 => exact stC (Kd.C_below HR267_4.out HB.out)); (case side6 => exact HC267_4.out); (case side7 => exact stC (Kd.C_below HR267_5.out HB.out)); (case side8 => exact HC267_5.out); rintro e w22 ⟨v269, rfl, ho0, hb⟩; refine ⟨_, rfl, ?_⟩; have n0_ := Aside0.mk (Kd.R_elder' (stR HO_3.out) (Kd.R_base ho0) hb); have n1_ := Aside0.mk (Kd.R_lower (Kd.R_new' ho0 (Kd.R_lt (stR HO_3.out))) (below_size (by repeat (first | (with_reducible first | exact HB.out | apply below_alloc | apply pw_below_drewN | apply below_drew1 | refine below_set ?_ GE254.out) | exact HB.out)))); have n2_ := Aside0.mk (blk_below (g := gb254) (o := .cells #[.int .i64 a0_0, .int .i64 a0_1, .int .i64 a0_2, .slice (some ad267) l0_3.length c0_3] 36 (0, 0)) (stK BK254.out) hb); have n3_ := Aside0.mk (below_step (by repeat (first | (with_reducible first | exact HB.out | apply below_alloc | apply pw_below_drewN | apply below_drew1 | refine below_set ?_ GE254.out) | exact HB.out)) hb); clear HO_3; clear BK254; clear HB; have HO_3 := n0_; have HO270 := n1_; have BK254 := n2_; have HB := n3_; clear n0_ n1_ n2_ n3_; (try clear hb); (try clear hb2); (try clear hk); (try clear hi); (try clear ho0); obtain ⟨Ao24, co24, eo24⟩ := Kd.R_slice HO270.out; subst eo24) | ((with_reducible refine gate_builtin (b := .append) (xs := #[.tmp 30, .tmp 36]) rfl ?_); at_builtin; refine Kd.R_append_rows (Kd.int .u8) (w0 := w) w.heap.size rfl (.tmp 30) (.tmp 36) 28 5 (.int .u8 0) 1 rfl Try.underlying28 info5 rfl (by decide) (by omega) u3 x3_1 t268 _ _ _ (fun k_ => some k_ ≠ (.slice Ao24 t268.length co24 : Value).ownBlock) (fun _ => False) rfl rfl ?aO ?aR (fun _ _ h => h) (fun _ h => h.elim) ?aF ?aB ?aS ?aL ?_; (case aR => exact stC ((Kd.R_reads' HO270.out).2.2)); (case aB => exact (by repeat (first | (with_reducible first | exact HB.out | apply below_alloc | apply pw_below_drewN | apply below_drew1 | refine below_set ?_ GE254.out) | exact HB.out))); (case aF => exact (fun k_ hk => Kd.fresh' (Kd.R_lt (stR HO270.out)) k_ hk)); (case aO => exact (by (with_reducible repeat (first|apply Kd.R_alloc | apply Kd.R_drewN | apply Kd.R_drew)); exact Kd.R_mono HO_3.out (fun _ hk => hk.2))); (case aS => exact (below_size (by repeat (first | (with_reducible first | exact HB.out | apply below_alloc | apply pw_below_drewN | apply below_drew1 | refine below_set ?_ GE254.out) | exact HB.out)))); (case aL => have := LMc20.out; omega); intro v272 w23 ho hb hg hat; rw [← Ny271.out] at ho; have n0_ := Aside0.mk (blk_grown (g := gb254) (o := .cells #[.int .i64 a0_0, .int .i64 a0_1, .int .i64 a0_2, .slice (some ad267) l0_3.length c0_3] 36 (0, 0)) (stK BK254.out) hg (Kd.R_ne HO_3.out BK254.out (by decide))); have n1_ := Aside0.mk (Kd.R_after (ok := (fun _ => True)) (stR HO270.out) hg hat); have n2_ := Aside0.mk (hb); have n3_ := Aside0.mk (ho); clear BK254; clear HO270; clear HB; clear HO_3; have BK254 := n0_; have HO270 := n1_; have HB := n2_; have HO273 := n3_; clear n0_ n1_ n2_ n3_; clear ho hb hg hat))
       go_roundg k1
       case measure => have := HK1.out; omega
       case rel => exact ⟨(y271), (wrap64 (x4_1 + 1)), (by first | rfl | (simp; done) | (simp [*]; done)), H', ⟨by have := HK1.out; omega⟩, ⟨by (with_reducible repeat (first|apply Kd.R_alloc | apply Kd.R_drewN | apply Kd.R_drew)); exact Kd.R_mono HO273.out (fun _ hk => trivial)⟩, ⟨stK BK254.out⟩, ⟨by repeat (first | (with_reducible first | exact HB.out | apply below_alloc | apply pw_below_drewN | apply below_drew1 | refine below_set ?_ GE254.out) | exact HB.out)⟩⟩
      ·rw [if_neg c20] at H
       exact absurd H (by simp)
     ·rw [if_neg c18] at H
      exact absurd H (by simp)
    ·rw [if_neg c17] at H
     have c17b0 : decide (x4_1 < (l0_3.length : Int)) = false := decide_eq_false c17
     clear c17
     obtain rfl := Option.some.inj H
     obtain ⟨hcz25_0, hcz25_1, hcz25_2, hcz25_3⟩ := bc4 BK254.out
     obtain ⟨hfz25_0, hfz25_1, hfz25_2, hfz25_3⟩ := bf4 BK254.out
     go_wp2
     go_ret
     exact ⟨_, by first | rfl | (simp [errW_none, errW_some] <;> rfl) | (simp [*, errW_none, errW_some] <;> rfl), stR HO_3.out, by repeat (first | (with_reducible first | exact HB.out | apply below_alloc | apply pw_below_drewN | apply below_drew1 | refine below_set ?_ GE254.out) | exact HB.out)⟩
 ·rw [if_neg c3] at H
  have c3b0 : (a0_0 == 1) = false := beq_eq_false_iff_ne.mpr c3
  have c3b1 : (a0_0 != 1) = true := bne_iff_ne.mpr c3
  obtain rfl := Option.some.inj H
  go_enter Try.func32, Try.ntmps32
  go_wp2_with (first | ((with_reducible refine gate_dst (N := 1) rfl ?_); refine box_event ?hg (N := 1) ?hd (cs := #[.int .i64 a0_0, .int .i64 a0_1, .int .i64 a0_2, .slice A0_3 l0_3.length c0_3]) (t := 36) ?hr ?_; (case hd => rfl); (case hg => rfl); (case hr => first | (go_simp; done) | (go_simp; rfl)); intro gb254 hg w26 hbox hb; have n0_ := Aside0.mk (below_step (stB HB.out) hb); have n1_ := Aside0.mk (hbox); have n2_ := Aside0.mk ((by rw [hg]; exact (below_size (stB HB.out)) : w.heap.size ≤ gb254)); have n3_ := Aside0.mk ((by rw [hg]; exact (below_size (stB HB.out)) : w.heap.size ≤ gb254)); clear HB; have HB := n0_; have BK254 := n1_; have GW254 := n2_; have GE254 := n3_; clear n0_ n1_ n2_ n3_; clear hb hbox hg; obtain ⟨hcz27_0, hcz27_1, hcz27_2, hcz27_3⟩ := bc4 BK254.out; obtain ⟨hfz27_0, hfz27_1, hfz27_2, hfz27_3⟩ := bf4 BK254.out) | ((with_reducible refine gate_dst (N := 7) rfl ?_); refine Kd.R_lit (Kd.int .i64) _ 2 ?hg (N := 7) ?hd (xs := ([a0_0] : List Int)) (inner := [.int .i64 a0_0]) (ok := fun _ => True) (okp := fun _ => True) ?hr ?hp (fun _ hk => hk) trivial (Below.refl _ _) (Nat.le_refl _) (by simp) ?_; (case hd => rfl); (case hg => rfl); (case hr => first | (go_simp; done) | (go_simp; rfl)); (case hp => exact (Reps.one (show Kd.M (Kd.int .i64) _ _ _ a0_0 [.int .i64 a0_0] from rfl) (Reps.none _ _))); intro v256 w28 ho29 hb hg_ hnew_; clear hg_ hnew_; (first | rw [← Ny255.out] at ho29 | (simp only [Int.reduceToNat] at ho29; rw [← Ny255.out] at ho29)); have n0_ := Aside0.mk (Kd.R_lower ho29 (below_size (by repeat (first | (with_reducible first | exact HB.out | apply below_alloc | apply pw_below_drewN | apply below_drew1 | refine below_set ?_ GE254.out) | exact HB.out)))); have n1_ := Aside0.mk (blk_below (g := gb254) (o := .cells #[.int .i64 a0_0, .int .i64 a0_1, .int .i64 a0_2, .slice A0_3 l0_3.length c0_3] 36 (0, 0)) (stK BK254.out) hb); have n2_ := Aside0.mk (below_step (by repeat (first | (with_reducible first | exact HB.out | apply below_alloc | apply pw_below_drewN | apply below_drew1 | refine below_set ?_ GE254.out) | exact HB.out)) hb); clear BK254; clear HB; have HO257 := n0_; have BK254 := n1_; have HB := n2_; clear n0_ n1_ n2_; clear hb ho29; obtain ⟨Ao30, co30, eo30⟩ := Kd.R_slice HO257.out; subst eo30) | ((with_reducible refine gate_callee (f := 51) rfl ?_); refine goesL_ (some 8) rfl rfl Try.func51 (by kernel_rfl) rfl #[.slice none 0 0, .slice Ao30 y255.length co30] rfl (by (try simp only [List.map_toArray, List.map_cons, List.map_nil]); first | done | rfl | (simp only [List.length_drop, List.length_take]; rfl)) ?_; (refine (trivetref04_num.calls k _ _ ([] : List Int) _ _ y255 t258 _ ?side1 ?side2 ?side3 ?side4 A2.out).mono ?_); (case side1 => exact Kd.C_nil _ _); (case side2 => exact Nat.le_refl _); (case side3 => exact stC ((Kd.R_reads' HO257.out).2.2)); (case side4 => exact (Kd.R_reads' HO257.out).2.1); rintro e w31 ⟨v259, rfl, ho0, hb⟩; refine ⟨_, rfl, ?_⟩; have n0_ := Aside0.mk (Kd.R_below (stR HO257.out) hb); have n1_ := Aside0.mk (Kd.R_lower ho0 (below_size (by repeat (first | (with_reducible first | exact HB.out | apply below_alloc | apply pw_below_drewN | apply below_drew1 | refine below_set ?_ GE254.out) | exact HB.out)))); have n2_ := Aside0.mk (blk_below (g := gb254) (o := .cells #[.int .i64 a0_0, .int .i64 a0_1, .int .i64 a0_2, .slice A0_3 l0_3.length c0_3] 36 (0, 0)) (stK BK254.out) hb); have n3_ := Aside0.mk (below_step (by repeat (first | (with_reducible first | exact HB.out | apply below_alloc | apply pw_below_drewN | apply below_drew1 | refine below_set ?_ GE254.out) | exact HB.out)) hb); clear HO257; clear BK254; clear HB; have HO257 := n0_; have HO260 := n1_; have BK254 := n2_; have HB := n3_; clear n0_ n1_ n2_ n3_; (try clear hb); (try clear hb2); (try clear hk); (try clear hi); (try clear ho0); obtain ⟨hcz32_0, hcz32_1, hcz32_2, hcz32_3⟩ := bc4 BK254.out; obtain ⟨hfz32_0, hfz32_1, hfz32_2, hfz32_3⟩ := bf4 BK254.out))
  go_ret
  exact ⟨_, by first | rfl | (simp [errW_none, errW_some] <;> rfl) | (simp [*, errW_none, errW_some] <;> rfl), stR HO260.out, by repeat (first | (with_reducible first | exact HB.out | apply below_alloc | apply pw_below_drewN | apply below_drew1 | refine below_set ?_ GE254.out) | exact HB.out)⟩
def trivetref04_Entry.f (k : Nat) (a0_0 : Int) (a0_1 : Int) (a0_2 : Int) (l0_3 : List (S32)) : Option (List Int × Int) := (trivetref04_MayEntry.f k a0_0 a0_1 a0_2 l0_3).bind fun t275 => (if t275 = true then ((trivetref04_EntryForm.f k a0_0 a0_1 a0_2 l0_3).bind fun t276 => (if (t276.length : Int) > 1048576 then (some (([] : List Int), 3)) else (some (t276, 0)))) else (some (([] : List Int), 40)))
set_option maxHeartbeats 8000000 in
set_option maxRecDepth 100000 in
theorem trivetref04_Entry.calls (k : Nat) (a0_0 : Int) (a0_1 : Int) (a0_2 : Int) (A0_3 : Option Addr) (c0_3 : Nat) (l0_3 : List (S32)) (r1 : List Int) (r2 : Int) (w : World) (hr0_3 : Kd.C k32 w A0_3 l0_3.length l0_3) (hc0_3 : l0_3.length ≤ c0_3) (h : trivetref04_Entry.f k a0_0 a0_1 a0_2 l0_3 = some (r1, r2)) :
  Calls Try.prog 13 #[.agg #[.int .i64 a0_0, .int .i64 a0_1, .int .i64 a0_2, .slice A0_3 l0_3.length c0_3]] w fun e w' => ∃ v0_ : Value, e = .returned (.tuple #[v0_, .int .i64 r2]) ∧ Kd.R (Kd.int .u8) 5 w' w.heap.size (fun _ => True) v0_ r1 ∧ Below w.heap.size w w' := by
 have hu36 := Try.underlying36
 have HR0_3 := Aside0.mk hr0_3
 have HC0_3 := Aside0.mk hc0_3
 clear hr0_3 hc0_3
 have HB := Aside0.mk (Below.refl w.heap.size w)
 have H : ((trivetref04_MayEntry.f k a0_0 a0_1 a0_2 l0_3).bind fun t275 => (if t275 = true then ((trivetref04_EntryForm.f k a0_0 a0_1 a0_2 l0_3).bind fun t276 => (if (t276.length : Int) > 1048576 then (some (([] : List Int), 3)) else (some (t276, 0)))) else (some (([] : List Int), 40)))) = some (r1, r2) := h
 clear h
 replace H := Option.bind_eq_some_iff.mp H
 obtain ⟨t275, A20, H⟩ := H
 replace H : (if t275 = true then ((trivetref04_EntryForm.f k a0_0 a0_1 a0_2 l0_3).bind fun t276 => (if (t276.length : Int) > 1048576 then (some (([] : List Int), 3)) else (some (t276, 0)))) else (some (([] : List Int), 40))) = some (r1, r2) := H
 have A2 := Aside0.mk A20
 clear A20
 by_cases c3 : t275 = true
 ·subst c3
  have H1 : ((trivetref04_EntryForm.f k a0_0 a0_1 a0_2 l0_3).bind fun t276 => (if (t276.length : Int) > 1048576 then (some (([] : List Int), 3)) else (some (t276, 0)))) = some (r1, r2) := by rw [if_pos rfl] at H; exact H
  clear H
  have H := H1
  clear H1
  replace H := Option.bind_eq_some_iff.mp H
  obtain ⟨t276, A40, H⟩ := H
  replace H : (if (t276.length : Int) > 1048576 then (some (([] : List Int), 3)) else (some (t276, 0))) = some (r1, r2) := H
  have A4 := Aside0.mk A40
  clear A40
  by_cases c5 : (t276.length : Int) > 1048576
  ·rw [if_pos c5] at H
   have c5b0 : decide (1048576 < (t276.length : Int)) = true := decide_eq_true c5
   have c5b1 : decide (1048576 < t276.length) = true := decide_eq_true (by omega)
   clear c5
   simp only [Option.some.injEq, Prod.mk.injEq] at H
   obtain ⟨rfl, rfl⟩ := H
   go_enter Try.func13, Try.ntmps13
   go_wp2_with (first | ((with_reducible refine gate_dst (N := 1) rfl ?_); refine box_event ?hg (N := 1) ?hd (cs := #[.int .i64 a0_0, .int .i64 a0_1, .int .i64 a0_2, .slice A0_3 l0_3.length c0_3]) (t := 36) ?hr ?_; (case hd => rfl); (case hg => rfl); (case hr => first | (go_simp; done) | (go_simp; rfl)); intro gb274 hg w6 hbox hb; have n0_ := Aside0.mk (below_step (stB HB.out) hb); have n1_ := Aside0.mk (hbox); have n2_ := Aside0.mk ((by rw [hg]; exact (below_size (stB HB.out)) : w.heap.size ≤ gb274)); have n3_ := Aside0.mk ((by rw [hg]; exact (below_size (stB HB.out)) : w.heap.size ≤ gb274)); clear HB; have HB := n0_; have BK274 := n1_; have GW274 := n2_; have GE274 := n3_; clear n0_ n1_ n2_ n3_; clear hb hbox hg; obtain ⟨hcz7_0, hcz7_1, hcz7_2, hcz7_3⟩ := bc4 BK274.out; obtain ⟨hfz7_0, hfz7_1, hfz7_2, hfz7_3⟩ := bf4 BK274.out) | ((with_reducible refine gate_callee (f := 31) rfl ?_); refine goesL_ (some 6) rfl rfl Try.func31 (by kernel_rfl) rfl #[.agg #[.int .i64 a0_0, .int .i64 a0_1, .int .i64 a0_2, .slice A0_3 l0_3.length c0_3]] rfl (by (try simp only [List.map_toArray, List.map_cons, List.map_nil]); first | done | rfl | (simp only [List.length_drop, List.length_take]; rfl)) ?_; (with_reducible refine (trivetref04_MayEntry.calls k a0_0 a0_1 a0_2 _ _ l0_3 true _ ?side1 ?side2 A2.out).mono ?_); (case side1 => exact stC (Kd.C_below HR0_3.out HB.out)); (case side2 => exact HC0_3.out); rintro e w8 ⟨rfl, hb⟩; refine ⟨_, rfl, ?_⟩; have n0_ := Aside0.mk (blk_below (g := gb274) (o := .cells #[.int .i64 a0_0, .int .i64 a0_1, .int .i64 a0_2, .slice A0_3 l0_3.length c0_3] 36 (0, 0)) (stK BK274.out) hb); have n1_ := Aside0.mk (below_step (by repeat (first | (with_reducible first | exact HB.out | apply below_alloc | apply pw_below_drewN | apply below_drew1 | refine below_set ?_ GE274.out) | exact HB.out)) hb); clear BK274; clear HB; have BK274 := n0_; have HB := n1_; clear n0_ n1_; (try clear hb); (try clear hb2); (try clear hk); (try clear hi); obtain ⟨hcz9_0, hcz9_1, hcz9_2, hcz9_3⟩ := bc4 BK274.out; obtain ⟨hfz9_0, hfz9_1, hfz9_2, hfz9_3⟩ := bf4 BK274.out) | ((with_reducible refine gate_callee (f := 32) rfl ?_); refine goesL_ (some 9) rfl rfl Try.func32 (by kernel_rfl) rfl #[.agg #[.int .i64 a0_0, .int .i64 a0_1, .int .i64 a0_2, .slice A0_3 l0_3.length c0_3]] rfl (by (try simp only [List.map_toArray, List.map_cons, List.map_nil]); first | done | rfl | (simp only [List.length_drop, List.length_take]; rfl)) ?_; (with_reducible refine (trivetref04_EntryForm.calls k a0_0 a0_1 a0_2 _ _ l0_3 t276 _ ?side1 ?side2 A4.out).mono ?_); (case side1 => exact stC (Kd.C_below HR0_3.out HB.out)); (case side2 => exact HC0_3.out); rintro e w10 ⟨v277, rfl, ho0, hb⟩; refine ⟨_, rfl, ?_⟩; have n0_ := Aside0.mk (Kd.R_lower ho0 (below_size (by repeat (first | (with_reducible first | exact HB.out | apply below_alloc | apply pw_below_drewN | apply below_drew1 | refine below_set ?_ GE274.out) | exact HB.out)))); have n1_ := Aside0.mk (blk_below (g := gb274) (o := .cells #[.int .i64 a0_0, .int .i64 a0_1, .int .i64 a0_2, .slice A0_3 l0_3.length c0_3] 36 (0, 0)) (stK BK274.out) hb); have n2_ := Aside0.mk (below_step (by repeat (first | (with_reducible first | exact HB.out | apply below_alloc | apply pw_below_drewN | apply below_drew1 | refine below_set ?_ GE274.out) | exact HB.out)) hb); clear BK274; clear HB; have HO278 := n0_; have BK274 := n1_; have HB := n2_; clear n0_ n1_ n2_; (try clear hb); (try clear hb2); (try clear hk); (try clear hi); (try clear ho0); obtain ⟨Ao11, co11, eo11⟩ := Kd.R_slice HO278.out; subst eo11))
   go_ret2
   exact ⟨_, by first | rfl | (simp [errW_none, errW_some] <;> rfl) | (simp [*, errW_none, errW_some] <;> rfl), by first | exact Kd.R_nil _ _ _ _ _ | exact Kd.N_nil _ _ _ _ _ | exact Kd.V_nil _ _ _ _ _ | exact Kd.Q_nil _ _ _ _ _ | exact Kd.S_nil _ _ _ _ _, by repeat (first | (with_reducible first | exact HB.out | apply below_alloc | apply pw_below_drewN | apply below_drew1 | refine below_set ?_ GE274.out) | exact HB.out)⟩
  ·rw [if_neg c5] at H
   have c5b0 : decide (1048576 < (t276.length : Int)) = false := decide_eq_false c5
   have c5b1 : decide (1048576 < t276.length) = false := decide_eq_false (by omega)
   clear c5
   simp only [Option.some.injEq, Prod.mk.injEq] at H
   obtain ⟨rfl, rfl⟩ := H
   go_enter Try.func13, Try.ntmps13
   go_wp2_with (first | ((with_reducible refine gate_dst (N := 1) rfl ?_); refine box_event ?hg (N := 1) ?hd (cs := #[.int .i64 a0_0, .int .i64 a0_1, .int .i64 a0_2, .slice A0_3 l0_3.length c0_3]) (t := 36) ?hr ?_; (case hd => rfl); (case hg => rfl); (case hr => first | (go_simp; done) | (go_simp; rfl)); intro gb274 hg w12 hbox hb; have n0_ := Aside0.mk (below_step (stB HB.out) hb); have n1_ := Aside0.mk (hbox); have n2_ := Aside0.mk ((by rw [hg]; exact (below_size (stB HB.out)) : w.heap.size ≤ gb274)); have n3_ := Aside0.mk ((by rw [hg]; exact (below_size (stB HB.out)) : w.heap.size ≤ gb274)); clear HB; have HB := n0_; have BK274 := n1_; have GW274 := n2_; have GE274 := n3_; clear n0_ n1_ n2_ n3_; clear hb hbox hg; obtain ⟨hcz13_0, hcz13_1, hcz13_2, hcz13_3⟩ := bc4 BK274.out; obtain ⟨hfz13_0, hfz13_1, hfz13_2, hfz13_3⟩ := bf4 BK274.out) | ((with_reducible refine gate_callee (f := 31) rfl ?_); refine goesL_ (some 6) rfl rfl Try.func31 (by kernel_rfl) rfl #[.agg #[.int .i64 a0_0, .int .i64 a0_1, .int .i64 a0_2, .slice A0_3 l0_3.length c0_3]] rfl (by (try simp only [List.map_toArray, List.map_cons, List.map_nil]); first | done | rfl | (simp only [List.length_drop, List.length_take]; rfl)) ?_; (with_reducible refine (trivetref04_MayEntry.calls k a0_0 a0_1 a0_2 _ _ l0_3 true _ ?side1 ?side2 A2.out).mono ?_); (case side1 => exact stC (Kd.C_below HR0_3.out HB.out)); (case side2 => exact HC0_3.out); rintro e w14 ⟨rfl, hb⟩; refine ⟨_, rfl, ?_⟩; have n0_ := Aside0.mk (blk_below (g := gb274) (o := .cells #[.int .i64 a0_0, .int .i64 a0_1, .int .i64 a0_2, .slice A0_3 l0_3.length c0_3] 36 (0, 0)) (stK BK274.out) hb); have n1_ := Aside0.mk (below_step (by repeat (first | (with_reducible first | exact HB.out | apply below_alloc | apply pw_below_drewN | apply below_drew1 | refine below_set ?_ GE274.out) | exact HB.out)) hb); clear BK274; clear HB; have BK274 := n0_; have HB := n1_; clear n0_ n1_; (try clear hb); (try clear hb2); (try clear hk); (try clear hi); obtain ⟨hcz15_0, hcz15_1, hcz15_2, hcz15_3⟩ := bc4 BK274.out; obtain ⟨hfz15_0, hfz15_1, hfz15_2, hfz15_3⟩ := bf4 BK274.out) | ((with_reducible refine gate_callee (f := 32) rfl ?_); refine goesL_ (some 9) rfl rfl Try.func32 (by kernel_rfl) rfl #[.agg #[.int .i64 a0_0, .int .i64 a0_1, .int .i64 a0_2, .slice A0_3 l0_3.length c0_3]] rfl (by (try simp only [List.map_toArray, List.map_cons, List.map_nil]); first | done | rfl | (simp only [List.length_drop, List.length_take]; rfl)) ?_; (with_reducible refine (trivetref04_EntryForm.calls k a0_0 a0_1 a0_2 _ _ l0_3 t276 _ ?side1 ?side2 A4.out).mono ?_); (case side1 => exact stC (Kd.C_below HR0_3.out HB.out)); (case side2 => exact HC0_3.out); rintro e w16 ⟨v277, rfl, ho0, hb⟩; refine ⟨_, rfl, ?_⟩; have n0_ := Aside0.mk (Kd.R_lower ho0 (below_size (by repeat (first | (with_reducible first | exact HB.out | apply below_alloc | apply pw_below_drewN | apply below_drew1 | refine below_set ?_ GE274.out) | exact HB.out)))); have n1_ := Aside0.mk (blk_below (g := gb274) (o := .cells #[.int .i64 a0_0, .int .i64 a0_1, .int .i64 a0_2, .slice A0_3 l0_3.length c0_3] 36 (0, 0)) (stK BK274.out) hb); have n2_ := Aside0.mk (below_step (by repeat (first | (with_reducible first | exact HB.out | apply below_alloc | apply pw_below_drewN | apply below_drew1 | refine below_set ?_ GE274.out) | exact HB.out)) hb); clear BK274; clear HB; have HO278 := n0_; have BK274 := n1_; have HB := n2_; clear n0_ n1_ n2_; (try clear hb); (try clear hb2); (try clear hk); (try clear hi); (try clear ho0); obtain ⟨Ao17, co17, eo17⟩ := Kd.R_slice HO278.out; subst eo17))
   go_ret2
   exact ⟨_, by first | rfl | (simp [errW_none, errW_some] <;> rfl) | (simp [*, errW_none, errW_some] <;> rfl), stR HO278.out, by repeat (first | (with_reducible first | exact HB.out | apply below_alloc | apply pw_below_drewN | apply below_drew1 | refine below_set ?_ GE274.out) | exact HB.out)⟩
 ·replace c3 := Bool.eq_false_iff.mpr c3
  subst c3
  have H1 : (some (([] : List Int), 40)) = some (r1, r2) := by rw [if_neg (show ¬ (false = true) by decide)] at H; exact H
  clear H
  have H := H1
  clear H1
  simp only [Option.some.injEq, Prod.mk.injEq] at H
  obtain ⟨rfl, rfl⟩ := H
  go_enter Try.func13, Try.ntmps13
  go_wp2_with (first | ((with_reducible refine gate_dst (N := 1) rfl ?_); refine box_event ?hg (N := 1) ?hd (cs := #[.int .i64 a0_0, .int .i64 a0_1, .int .i64 a0_2, .slice A0_3 l0_3.length c0_3]) (t := 36) ?hr ?_; (case hd => rfl); (case hg => rfl); (case hr => first | (go_simp; done) | (go_simp; rfl)); intro gb274 hg w18 hbox hb; have n0_ := Aside0.mk (below_step (stB HB.out) hb); have n1_ := Aside0.mk (hbox); have n2_ := Aside0.mk ((by rw [hg]; exact (below_size (stB HB.out)) : w.heap.size ≤ gb274)); have n3_ := Aside0.mk ((by rw [hg]; exact (below_size (stB HB.out)) : w.heap.size ≤ gb274)); clear HB; have HB := n0_; have BK274 := n1_; have GW274 := n2_; have GE274 := n3_; clear n0_ n1_ n2_ n3_; clear hb hbox hg; obtain ⟨hcz19_0, hcz19_1, hcz19_2, hcz19_3⟩ := bc4 BK274.out; obtain ⟨hfz19_0, hfz19_1, hfz19_2, hfz19_3⟩ := bf4 BK274.out) | ((with_reducible refine gate_callee (f := 31) rfl ?_); refine goesL_ (some 6) rfl rfl Try.func31 (by kernel_rfl) rfl #[.agg #[.int .i64 a0_0, .int .i64 a0_1, .int .i64 a0_2, .slice A0_3 l0_3.length c0_3]] rfl (by (try simp only [List.map_toArray, List.map_cons, List.map_nil]); first | done | rfl | (simp only [List.length_drop, List.length_take]; rfl)) ?_; (with_reducible refine (trivetref04_MayEntry.calls k a0_0 a0_1 a0_2 _ _ l0_3 false _ ?side1 ?side2 A2.out).mono ?_); (case side1 => exact stC (Kd.C_below HR0_3.out HB.out)); (case side2 => exact HC0_3.out); rintro e w20 ⟨rfl, hb⟩; refine ⟨_, rfl, ?_⟩; have n0_ := Aside0.mk (blk_below (g := gb274) (o := .cells #[.int .i64 a0_0, .int .i64 a0_1, .int .i64 a0_2, .slice A0_3 l0_3.length c0_3] 36 (0, 0)) (stK BK274.out) hb); have n1_ := Aside0.mk (below_step (by repeat (first | (with_reducible first | exact HB.out | apply below_alloc | apply pw_below_drewN | apply below_drew1 | refine below_set ?_ GE274.out) | exact HB.out)) hb); clear BK274; clear HB; have BK274 := n0_; have HB := n1_; clear n0_ n1_; (try clear hb); (try clear hb2); (try clear hk); (try clear hi)))
  go_ret2
  exact ⟨_, by first | rfl | (simp [errW_none, errW_some] <;> rfl) | (simp [*, errW_none, errW_some] <;> rfl), by first | exact Kd.R_nil _ _ _ _ _ | exact Kd.N_nil _ _ _ _ _ | exact Kd.V_nil _ _ _ _ _ | exact Kd.Q_nil _ _ _ _ _ | exact Kd.S_nil _ _ _ _ _, by repeat (first | (with_reducible first | exact HB.out | apply below_alloc | apply pw_below_drewN | apply below_drew1 | refine below_set ?_ GE274.out) | exact HB.out)⟩
end Go.Proofs.Ytgmlpmdfkaadhaa.G
end

section
/- The reference's Entry; slices.EqualFunc of transactions. -/
attribute [local irreducible] Go.wpStill
namespace Go.Proofs.Ytgmlpmdfkaadhaa.M
open Go.RowKit Go.Proofs.YtgmlpmdfkaadhaaW.PrintWords Go.Proofs.YtgmlpmdfkaadhaaW.PrintLast Go.Proofs.YtgmlpmdfkaadhaaW.PrintMore Go.Proofs.Ytgmlpmdfkaadhaa.G
theorem rdTx_eq {l : List TxD} {i : Nat} {x : TxD} (h : l[i]? = some x) : G.rd_T32 l (i : Int) = x := by unfold G.rd_T32; rw [Int.toNat_natCast, List.getD_eq_getElem?_getD, h]; rfl
theorem entform_l (x y z : Int) : ∀ (k : Nat) (acc : List Int) (a : List TxD) (i : Nat), a.length + 110 < i + k → i ≤ a.length → (∀ t ∈ a, okT t = true ∧ mayT t = true) → acc.length + 1300 * (a.length - i) < 140737488355000 → a.length ≤ 1000000 → G.trivetref04_EntryForm.l0 k acc (i : Int) x y z a = some (acc ++ (a.drop i).flatMap txB)
 | 0, acc, a, i, hk, hi, _, _, _ => by omega
 | k + 1, acc, a, i, hk, hi, ho, hs, hm => by
  simp only [G.trivetref04_EntryForm.l0]
  by_cases hlt : i < a.length
  ·obtain ⟨t, hx⟩ : ∃ t, a[i]? = some t := ⟨_, List.getElem?_eq_getElem hlt⟩
   have d1 := drop_cons hx
   have hw : wrap64 ((i : Int) + 1) = ((i + 1 : Nat) : Int) := by unfold wrap64; omega
   obtain ⟨h1, h2⟩ := ho t (List.mem_of_getElem? hx)
   have hl := txB_len h1 h2
   rw [if_pos (by omega : (i : Int) < (a.length : Int)), if_pos (by omega : (0 : Int) ≤ (i : Int)), rdTx_eq hx, txform_f k t h1 h2 (by omega), Option.bind_some, if_pos (by omega), hw]
   rw [entform_l x y z k _ a (i + 1) (by omega) (by omega) ho (by rw [List.length_append]; omega) hm, d1, List.flatMap_cons, List.append_assoc]
  ·rw [if_neg (by omega), List.drop_of_length_le (by omega)]
   simp
theorem numsB3 (a b c : Int) : numsB [a, b, c] = numsB [a, b] ++ numB c := by simp [numsB]
theorem entform_f (k : Nat) (e f n : Int) (l : List TxD) (ho : okE e f n l = true) (hm : mayE e f n l = true) (hk : 200 ≤ k) : G.trivetref04_EntryForm.f k e f n l = some (entB e f n l) := by
 obtain ⟨o1, o2, o3⟩ := okE_parts ho
 unfold G.trivetref04_EntryForm.f entB
 have e1 := (numB_len o1).2
 rw [rnum_f k [] [e] (okI1 o1) (by simp) (by simp; omega), Option.bind_some, numsB1, List.nil_append]
 by_cases h0 : e = 0
 ·rw [if_neg (by omega), if_pos h0, h0]
 ·obtain ⟨h1, h2, h3⟩ := mayE_one hm h0
  rw [if_pos h1, if_neg h0]
  have hn : isI64 (l.length : Int) := nat_i64 _ (by omega)
  have e3 := (numB_len hn).2
  have e2 := numsB2_len o2
  have o4 : okI [f, n, (l.length : Int)] = true := by
   unfold okI at o2 ⊢
   simp only [List.all_cons, List.all_nil, Bool.and_true, Bool.and_eq_true, decide_eq_true_eq] at o2 ⊢
   exact ⟨o2.1, o2.2, hn⟩
  rw [rnum_f k (numB e) [f, n, (l.length : Int)] o4 (by simp only [List.length_cons, List.length_nil]; omega) (by simp; omega), Option.bind_some, numsB3]
  have := entform_l e f n k (numB e ++ (numsB [f, n] ++ numB l.length)) l 0 (by omega) (by omega) (fun t ht => ⟨List.all_eq_true.1 o3 t ht, List.all_eq_true.1 h3 t ht⟩) (by simp only [List.length_append]; omega) (by omega)
  rw [show ((0 : Nat) : Int) = 0 from rfl] at this
  rw [this, List.drop_zero]
  simp only [List.append_assoc]
theorem refEntry_is {w : World} (x : EntD) {E : Option Addr} {ce : Nat} (hr : Kd.C G.k32 w E x.f3.length x.f3) (hc : x.f3.length ≤ ce) (ho : okE x.f0 x.f1 x.f2 x.f3 = true) :
  Calls Try.prog 13 #[.agg #[.int .i64 x.f0, .int .i64 x.f1, .int .i64 x.f2, .slice E x.f3.length ce]] w fun e w' => BytesP w (entF x.f0 x.f1 x.f2 x.f3).1 (entF x.f0 x.f1 x.f2 x.f3).2 e w' := by
 obtain ⟨M, hM⟩ := bound_T x.f3
 refine G.trivetref04_Entry.calls (M + x.f3.length + 203) x.f0 x.f1 x.f2 E ce x.f3 _ _ w hr hc ?_
 unfold G.trivetref04_Entry.f entF
 rw [mayE_r _ x.f0 x.f1 x.f2 x.f3 (fun t ht => by have := hM t ht; omega) (by omega) hr.2.1 (fun t ht => ?_), Option.bind_some]
 ·cases hm : mayE x.f0 x.f1 x.f2 x.f3 with
  | false => rw [if_neg (by simp), if_neg (by simp)]
  | true =>
   rw [if_pos rfl, if_pos rfl, entform_f _ _ _ _ _ ho hm (by omega), Option.bind_some]
   by_cases h : 1048576 < (entB x.f0 x.f1 x.f2 x.f3).length
   ·rw [if_pos (by omega), if_pos h]
   ·rw [if_neg (by omega), if_neg h]
 ·obtain ⟨i, hi⟩ := List.getElem?_of_mem ht
  obtain ⟨ad, A2, c2, A3, c3, A4, c4, A5, c5, _, _, hX⟩ := tx_get hr hi
  exact hX.ls
theorem eqTs_refl : ∀ l : List TxD, eqTs l l = true
 | [] => rfl
 | a :: l => by unfold eqTs; rw [eqTs_refl l]; unfold eqTx; simp [eqS_refl]
end Go.Proofs.Ytgmlpmdfkaadhaa.M
end

section
/- the reference's CloneTxn (printed by genclref04.py). -/
attribute [local irreducible] Go.wpStill
namespace Go.Proofs.Ytgmlpmdfkaadhaa.M
open Go.RowKit Go.Proofs.YtgmlpmdfkaadhaaW.PrintWords Go.Proofs.YtgmlpmdfkaadhaaW.PrintLast Go.Proofs.YtgmlpmdfkaadhaaW.PrintMore Go.Proofs.Ytgmlpmdfkaadhaa.G
set_option maxHeartbeats 4000000 in
theorem refCloneTx_is {w : World} (t : TxD) {A2 A3 A4 A5 : Option Addr} {c2 c3 c4 c5 : Nat} (hC : TxC w t A2 c2 A3 c3 A4 c4 A5 c5) (hs : SmT t) :
  Calls Try.prog 35 #[txV t A2 c2 A3 c3 A4 c4 A5 c5] w fun e w' => TxNew w t e w' := by
 have HC := Lib.hid hC; have HS := Lib.hid hs
 have HT0 := Lib.hid (Bx.start w 32 #[.int .i64 0, .int .i64 0, .slice none 0 0, .slice none 0 0, .slice none 0 0, .slice none 0 0] #[.int .i64 t.f0, .int .i64 t.f1, .slice A2 t.f2.length c2, .slice A3 t.f3.length c3, .slice A4 t.f4.length c4, .slice A5 t.f5.length c5])
 clear hC hs
 go_enter Try.func35, Try.ntmps35
 go_upto_region 1 with fail
 obtain ⟨g, hg⟩ : ∃ g, w.heap.size = g := ⟨_, rfl⟩
 obtain ⟨w0, hw⟩ : ∃ w0, (w.alloc (.cells #[.int .i64 t.f0, .int .i64 t.f1, .slice A2 t.f2.length c2, .slice A3 t.f3.length c3, .slice A4 t.f4.length c4, .slice A5 t.f5.length c5] 32)).alloc (.cells #[.int .i64 0, .int .i64 0, .slice none 0 0, .slice none 0 0, .slice none 0 0, .slice none 0 0] 32) = w0 := ⟨_, rfl⟩
 have HG := Lib.hid hg
 rw [hw] at HT0 ⊢
 rw [hg] at HT0 ⊢
 clear hw hg
 have d2 : w0.cell? ⟨g, 2, none⟩ = some (.slice A2 t.f2.length c2) := (blk_cell HT0.out.y 2).trans rfl
 go_upto_region 2 with ((with_reducible refine gate_builtin (b := .append) (xs := #[.const (.slice none 0 0), .tmp 4]) rfl ?_); at_builtin; refine Kd.R_append_rows (Kd.int .u8) (w0 := w0) w0.heap.size rfl (.const (.slice none 0 0)) (.tmp 4) 28 5 (.int .u8 0) 1 rfl Try.underlying28 infoU8 rfl (by decide) (by omega) _ ([] : List Int) t.f2 _ _ _ (fun _ => True) (fun _ => False) rfl rfl (Kd.R_nil _ _ _ _ _) (Kd.C_below HC.out.g2 HT0.out.d) (fun _ _ h => h) (fun _ h => h.elim) (fun _ _ => trivial) (Below.refl _ _) (Nat.le_refl _) (by have := HS.out.1; simp; omega) ?_; intro w_ w1 hv hb _ _; rw [List.nil_append] at hv; obtain ⟨N2, N2c, rfl⟩ := Kd.R_slice hv; have HT1 := Lib.hid (HT0.out.callR hb hv); clear hv hb d2; have d2 : w1.cell? ⟨g, 2, none⟩ = some (.slice A2 t.f2.length c2) := (blk_cell HT1.out.y 2).trans rfl; have z2 : w1.frozen? ⟨g, 2, none⟩ = false := blk_frozen HT1.out.y 2)
 have HT2 := Lib.hid (HT1.out.set 2 (.slice N2 t.f2.length N2c) #[.int .i64 t.f0, .int .i64 t.f1, .slice N2 t.f2.length N2c, .slice A3 t.f3.length c3, .slice A4 t.f4.length c4, .slice A5 t.f5.length c5] (blk_put HT1.out.y 2 _ rfl))
 have HSZ2 := Lib.hid (show w1.heap.size ≤ (w1.setCell ⟨g, 2, none⟩ (.slice N2 t.f2.length N2c)).heap.size by rw [World.size_setCell]; exact Nat.le_refl _)
 obtain ⟨w2, hw⟩ : ∃ W, w1.setCell ⟨g, 2, none⟩ (.slice N2 t.f2.length N2c) = W := ⟨_, rfl⟩
 rw [hw] at HT2 HSZ2 ⊢
 clear hw HT0 HT1 d2 z2
 have d3 : w2.cell? ⟨g, 3, none⟩ = some (.slice A3 t.f3.length c3) := (blk_cell HT2.out.y 3).trans rfl
 go_upto_region 3 with ((with_reducible refine gate_builtin (b := .append) (xs := #[.const (.slice none 0 0), .tmp 8]) rfl ?_); at_builtin; refine Kd.R_append_rows (Kd.int .i64) (w0 := w2) w2.heap.size rfl (.const (.slice none 0 0)) (.tmp 8) 29 2 (.int .i64 0) 8 rfl Try.underlying29 infoI64 rfl (by decide) (by omega) _ ([] : List Int) t.f3 _ _ _ (fun _ => True) (fun _ => False) rfl rfl (Kd.R_nil _ _ _ _ _) (Kd.C_below HC.out.g3 HT2.out.d) (fun _ _ h => h) (fun _ h => h.elim) (fun _ _ => trivial) (Below.refl _ _) (Nat.le_refl _) (by have := HS.out.2.1; simp; omega) ?_; intro w_ w3 hv hb _ _; rw [List.nil_append] at hv; obtain ⟨N3, N3c, rfl⟩ := Kd.R_slice hv; have HT3 := Lib.hid (HT2.out.callR hb hv); clear hv hb d3; have d3 : w3.cell? ⟨g, 3, none⟩ = some (.slice A3 t.f3.length c3) := (blk_cell HT3.out.y 3).trans rfl; have z3 : w3.frozen? ⟨g, 3, none⟩ = false := blk_frozen HT3.out.y 3)
 have HT4 := Lib.hid (HT3.out.set 3 (.slice N3 t.f3.length N3c) #[.int .i64 t.f0, .int .i64 t.f1, .slice N2 t.f2.length N2c, .slice N3 t.f3.length N3c, .slice A4 t.f4.length c4, .slice A5 t.f5.length c5] (blk_put HT3.out.y 3 _ rfl))
 have HSZ4 := Lib.hid (show w3.heap.size ≤ (w3.setCell ⟨g, 3, none⟩ (.slice N3 t.f3.length N3c)).heap.size by rw [World.size_setCell]; exact Nat.le_refl _)
 obtain ⟨w4, hw⟩ : ∃ W, w3.setCell ⟨g, 3, none⟩ (.slice N3 t.f3.length N3c) = W := ⟨_, rfl⟩
 rw [hw] at HT4 HSZ4 ⊢
 clear hw HT2 HT3 d3 z3
 have d4 : w4.cell? ⟨g, 4, none⟩ = some (.slice A4 t.f4.length c4) := (blk_cell HT4.out.y 4).trans rfl
 go_upto_region 4 with ((with_reducible refine gate_builtin (b := .append) (xs := #[.const (.slice none 0 0), .tmp 12]) rfl ?_); at_builtin; refine Kd.R_append_rows G.k54 (w0 := w4) w4.heap.size rfl (.const (.slice none 0 0)) (.tmp 12) 30 54 (.agg #[.int .i32 0, .int .i64 0]) 16 rfl Try.underlying30 infoKey rfl (by decide) (by omega) _ ([] : List (G.S54)) t.f4 _ _ _ (fun _ => True) (fun _ => False) rfl rfl (Kd.R_nil _ _ _ _ _) (Kd.C_below HC.out.g4 HT4.out.d) (fun x cs h => (by rw [G.k54_open h]; exact G.k54_mkM _ _ _ _)) (fun _ h => h.elim) (fun _ _ => trivial) (Below.refl _ _) (Nat.le_refl _) (by have := HS.out.2.2.1; simp; omega) ?_; intro w_ w5 hv hb _ _; rw [List.nil_append] at hv; obtain ⟨N4, N4c, rfl⟩ := Kd.R_slice hv; have HT5 := Lib.hid (HT4.out.callR hb hv); clear hv hb d4; have d4 : w5.cell? ⟨g, 4, none⟩ = some (.slice A4 t.f4.length c4) := (blk_cell HT5.out.y 4).trans rfl; have z4 : w5.frozen? ⟨g, 4, none⟩ = false := blk_frozen HT5.out.y 4)
 have HT6 := Lib.hid (HT5.out.set 4 (.slice N4 t.f4.length N4c) #[.int .i64 t.f0, .int .i64 t.f1, .slice N2 t.f2.length N2c, .slice N3 t.f3.length N3c, .slice N4 t.f4.length N4c, .slice A5 t.f5.length c5] (blk_put HT5.out.y 4 _ rfl))
 have HSZ6 := Lib.hid (show w5.heap.size ≤ (w5.setCell ⟨g, 4, none⟩ (.slice N4 t.f4.length N4c)).heap.size by rw [World.size_setCell]; exact Nat.le_refl _)
 obtain ⟨w6, hw⟩ : ∃ W, w5.setCell ⟨g, 4, none⟩ (.slice N4 t.f4.length N4c) = W := ⟨_, rfl⟩
 rw [hw] at HT6 HSZ6 ⊢
 clear hw HT4 HT5 d4 z4
 have d5 : w6.cell? ⟨g, 5, none⟩ = some (.slice A5 t.f5.length c5) := (blk_cell HT6.out.y 5).trans rfl
 go_upto_region 5 with ((with_reducible refine gate_builtin (b := .append) (xs := #[.const (.slice none 0 0), .tmp 16]) rfl ?_); at_builtin; refine Kd.R_append_rows G.k54 (w0 := w6) w6.heap.size rfl (.const (.slice none 0 0)) (.tmp 16) 30 54 (.agg #[.int .i32 0, .int .i64 0]) 16 rfl Try.underlying30 infoKey rfl (by decide) (by omega) _ ([] : List (G.S54)) t.f5 _ _ _ (fun _ => True) (fun _ => False) rfl rfl (Kd.R_nil _ _ _ _ _) (Kd.C_below HC.out.g5 HT6.out.d) (fun x cs h => (by rw [G.k54_open h]; exact G.k54_mkM _ _ _ _)) (fun _ h => h.elim) (fun _ _ => trivial) (Below.refl _ _) (Nat.le_refl _) (by have := HS.out.2.2.2; simp; omega) ?_; intro w_ w7 hv hb _ _; rw [List.nil_append] at hv; obtain ⟨N5, N5c, rfl⟩ := Kd.R_slice hv; have HT7 := Lib.hid (HT6.out.callR hb hv); clear hv hb d5; have d5 : w7.cell? ⟨g, 5, none⟩ = some (.slice A5 t.f5.length c5) := (blk_cell HT7.out.y 5).trans rfl; have z5 : w7.frozen? ⟨g, 5, none⟩ = false := blk_frozen HT7.out.y 5)
 have HT8 := Lib.hid (HT7.out.set 5 (.slice N5 t.f5.length N5c) #[.int .i64 t.f0, .int .i64 t.f1, .slice N2 t.f2.length N2c, .slice N3 t.f3.length N3c, .slice N4 t.f4.length N4c, .slice N5 t.f5.length N5c] (blk_put HT7.out.y 5 _ rfl))
 have HSZ8 := Lib.hid (show w7.heap.size ≤ (w7.setCell ⟨g, 5, none⟩ (.slice N5 t.f5.length N5c)).heap.size by rw [World.size_setCell]; exact Nat.le_refl _)
 obtain ⟨w8, hw⟩ : ∃ W, w7.setCell ⟨g, 5, none⟩ (.slice N5 t.f5.length N5c) = W := ⟨_, rfl⟩
 rw [hw] at HT8 HSZ8 ⊢
 clear hw HT6 HT7 d5 z5
 have d0 : w8.cell? ⟨g, 0, none⟩ = some (.int .i64 t.f0) := (blk_cell HT8.out.y 0).trans rfl
 have z0 : w8.frozen? ⟨g, 0, none⟩ = false := blk_frozen HT8.out.y 0
 have d1 : w8.cell? ⟨g, 1, none⟩ = some (.int .i64 t.f1) := (blk_cell HT8.out.y 1).trans rfl
 have z1 : w8.frozen? ⟨g, 1, none⟩ = false := blk_frozen HT8.out.y 1
 have d2 : w8.cell? ⟨g, 2, none⟩ = some (.slice N2 t.f2.length N2c) := (blk_cell HT8.out.y 2).trans rfl
 have z2 : w8.frozen? ⟨g, 2, none⟩ = false := blk_frozen HT8.out.y 2
 have d3 : w8.cell? ⟨g, 3, none⟩ = some (.slice N3 t.f3.length N3c) := (blk_cell HT8.out.y 3).trans rfl
 have z3 : w8.frozen? ⟨g, 3, none⟩ = false := blk_frozen HT8.out.y 3
 have d4 : w8.cell? ⟨g, 4, none⟩ = some (.slice N4 t.f4.length N4c) := (blk_cell HT8.out.y 4).trans rfl
 have z4 : w8.frozen? ⟨g, 4, none⟩ = false := blk_frozen HT8.out.y 4
 have d5 : w8.cell? ⟨g, 5, none⟩ = some (.slice N5 t.f5.length N5c) := (blk_cell HT8.out.y 5).trans rfl
 have z5 : w8.frozen? ⟨g, 5, none⟩ = false := blk_frozen HT8.out.y 5
 have e0 : w8.cell? ⟨g + 1, 0, none⟩ = some (.int .i64 0) := (blk_cell HT8.out.g0 0).trans rfl
 have y0 : w8.frozen? ⟨g + 1, 0, none⟩ = false := blk_frozen HT8.out.g0 0
 have e1 : w8.cell? ⟨g + 1, 1, none⟩ = some (.int .i64 0) := (blk_cell HT8.out.g0 1).trans rfl
 have y1 : w8.frozen? ⟨g + 1, 1, none⟩ = false := blk_frozen HT8.out.g0 1
 have e2 : w8.cell? ⟨g + 1, 2, none⟩ = some (.slice none 0 0) := (blk_cell HT8.out.g0 2).trans rfl
 have y2 : w8.frozen? ⟨g + 1, 2, none⟩ = false := blk_frozen HT8.out.g0 2
 have e3 : w8.cell? ⟨g + 1, 3, none⟩ = some (.slice none 0 0) := (blk_cell HT8.out.g0 3).trans rfl
 have y3 : w8.frozen? ⟨g + 1, 3, none⟩ = false := blk_frozen HT8.out.g0 3
 have e4 : w8.cell? ⟨g + 1, 4, none⟩ = some (.slice none 0 0) := (blk_cell HT8.out.g0 4).trans rfl
 have y4 : w8.frozen? ⟨g + 1, 4, none⟩ = false := blk_frozen HT8.out.g0 4
 have e5 : w8.cell? ⟨g + 1, 5, none⟩ = some (.slice none 0 0) := (blk_cell HT8.out.g0 5).trans rfl
 have y5 : w8.frozen? ⟨g + 1, 5, none⟩ = false := blk_frozen HT8.out.g0 5
 go_wp2_with fail
 have HEB := Lib.hid (blk_put (cs := #[.int .i64 t.f0, .int .i64 t.f1, .slice N2 t.f2.length N2c, .slice N3 t.f3.length N3c, .slice N4 t.f4.length N4c, .slice none 0 0]) (blk_put (cs := #[.int .i64 t.f0, .int .i64 t.f1, .slice N2 t.f2.length N2c, .slice N3 t.f3.length N3c, .slice none 0 0, .slice none 0 0]) (blk_put (cs := #[.int .i64 t.f0, .int .i64 t.f1, .slice N2 t.f2.length N2c, .slice none 0 0, .slice none 0 0, .slice none 0 0]) (blk_put (cs := #[.int .i64 t.f0, .int .i64 t.f1, .slice none 0 0, .slice none 0 0, .slice none 0 0, .slice none 0 0]) (blk_put (cs := #[.int .i64 t.f0, .int .i64 0, .slice none 0 0, .slice none 0 0, .slice none 0 0, .slice none 0 0]) (blk_put (cs := #[.int .i64 0, .int .i64 0, .slice none 0 0, .slice none 0 0, .slice none 0 0, .slice none 0 0]) HT8.out.g0 0 (.int .i64 t.f0) rfl) 1 (.int .i64 t.f1) rfl) 2 (.slice N2 t.f2.length N2c) rfl) 3 (.slice N3 t.f3.length N3c) rfl) 4 (.slice N4 t.f4.length N4c) rfl) 5 (.slice N5 t.f5.length N5c) rfl)
 have HD := Lib.hid (HT8.out.done (((((((KeepS.refl (fun k => k = g + 1 ∨ k = g) w8).set (p := ⟨g + 1, 0, none⟩) (.inl (.inl rfl)) (.int .i64 t.f0)).set (p := ⟨g + 1, 1, none⟩) (.inl (.inl rfl)) (.int .i64 t.f1)).set (p := ⟨g + 1, 2, none⟩) (.inl (.inl rfl)) (.slice N2 t.f2.length N2c)).set (p := ⟨g + 1, 3, none⟩) (.inl (.inl rfl)) (.slice N3 t.f3.length N3c)).set (p := ⟨g + 1, 4, none⟩) (.inl (.inl rfl)) (.slice N4 t.f4.length N4c)).set (p := ⟨g + 1, 5, none⟩) (.inl (.inl rfl)) (.slice N5 t.f5.length N5c)))
 obtain ⟨W, hW⟩ : ∃ W, ((((((w8.setCell ⟨g + 1, 0, none⟩ (.int .i64 t.f0)).setCell ⟨g + 1, 1, none⟩ (.int .i64 t.f1)).setCell ⟨g + 1, 2, none⟩ (.slice N2 t.f2.length N2c)).setCell ⟨g + 1, 3, none⟩ (.slice N3 t.f3.length N3c)).setCell ⟨g + 1, 4, none⟩ (.slice N4 t.f4.length N4c)).setCell ⟨g + 1, 5, none⟩ (.slice N5 t.f5.length N5c)) = W := ⟨_, rfl⟩
 rw [hW] at HEB HD ⊢
 clear hW
 refine bodyPost_ret (results_cell_row rfl _ _ (g + 1) 32 #[.int .i64 t.f0, .int .i64 t.f1, .slice N2 t.f2.length N2c, .slice N3 t.f3.length N3c, .slice N4 t.f4.length N4c, .slice N5 t.f5.length N5c] (0, 0) _ rfl HEB.out Try.underlying32 rfl (by kernel_rfl)) rfl ?_
 obtain ⟨⟨⟨⟨⟨-, p2⟩, p3⟩, p4⟩, p5⟩, dd⟩ := HD.out
 exact ⟨_, _, _, _, rfl, Kd.R_mono p2 (fun _ _ => trivial), Kd.R_mono p3 (fun _ _ => trivial), Iv.apart p4 p5 (.inl HSZ6.out), Iv.apart p5 p4 (.inr HSZ6.out), dd⟩
end Go.Proofs.Ytgmlpmdfkaadhaa.M
end

section
/- the reference's CloneEntry (printed by genclref04.py). -/
attribute [local irreducible] Go.wpStill
namespace Go.Proofs.Ytgmlpmdfkaadhaa.M
open Go.RowKit Go.Proofs.YtgmlpmdfkaadhaaW.PrintWords Go.Proofs.YtgmlpmdfkaadhaaW.PrintLast Go.Proofs.YtgmlpmdfkaadhaaW.PrintMore Go.Proofs.Ytgmlpmdfkaadhaa.G
set_option maxHeartbeats 4000000 in
theorem refCloneEn_is {w : World} (x : EntD) {A : Option Addr} {c : Nat} (hc : x.f3.length ≤ c) (hC : Kd.C G.k32 w A x.f3.length x.f3) (hs : SmE x) :
  Calls Try.prog 17 #[.agg #[.int .i64 x.f0, .int .i64 x.f1, .int .i64 x.f2, .slice A x.f3.length c]] w fun e w' => EnNew w x e w' := by
 have HC := Lib.hid hC; have HS := Lib.hid hs; have hlm : x.f3.length ≤ 1048576 := hs.1
 have HT0 := Lib.hid (Bx.start w 36 #[.int .i64 0, .int .i64 0, .int .i64 0, .slice none 0 0] #[.int .i64 x.f0, .int .i64 x.f1, .int .i64 x.f2, .slice A x.f3.length c])
 clear hC hs
 go_enter Try.func17, Try.ntmps17
 go_upto_region 1 with fail
 obtain ⟨g, hg⟩ : ∃ g, w.heap.size = g := ⟨_, rfl⟩
 obtain ⟨w0, hw⟩ : ∃ w0, (w.alloc (.cells #[.int .i64 x.f0, .int .i64 x.f1, .int .i64 x.f2, .slice A x.f3.length c] 36)).alloc (.cells #[.int .i64 0, .int .i64 0, .int .i64 0, .slice none 0 0] 36) = w0 := ⟨_, rfl⟩
 have HG := Lib.hid hg
 rw [hw] at HT0 ⊢
 rw [hg] at HT0 ⊢
 clear hw hg
 have d3 : w0.cell? ⟨g, 3, none⟩ = some (.slice A x.f3.length c) := (blk_cell HT0.out.y 3).trans rfl
 have z3 : w0.frozen? ⟨g, 3, none⟩ = false := blk_frozen HT0.out.y 3
 go_wp2_with fail
 go_loopw [3, 4] (fun v i wr => CeI x A c w w0 g v i wr) (fun _ i _ => x.f3.length - (intOf i).toNat)
 case atStart => exact ⟨0, rfl, Nat.zero_le _, Kd.S_nil _ _ _ _ _, HT0.out, Below.refl _ _⟩
 case round =>
  obtain ⟨k, rfl, hk, hS, hT, hB⟩ := hrel
  obtain ⟨Av, cv, rfl⟩ := Kd.S_slice hS
  have HSS := Lib.hid hS; have HT := Lib.hid hT; have HB := Lib.hid hB
  clear hS hT hB d3 z3
  have d3 : wr.cell? ⟨g, 3, none⟩ = some (.slice A x.f3.length c) := (blk_cell HT.out.y 3).trans rfl
  have hlt1 : (x.f3.take k).length = k := by rw [List.length_take]; omega
  rw [hlt1]
  rw [hlt1] at HSS
  clear hlt1
  by_cases hlt : k < x.f3.length
  ·obtain ⟨t, ht⟩ : ∃ t, x.f3[k]? = some t := ⟨_, List.getElem?_eq_getElem hlt⟩
   obtain ⟨ad, A2, c2, A3, c3, A4, c4, A5, c5, rfl, ⟨e0, e1, e2, e3, e4, e5⟩, hX⟩ := tx_get (Kd.C_below HC.out HT.out.d) ht
   have HB1 := Lib.hid (Below.refl wr.heap.size wr)
   have HTM := Lib.hid (show SmT t from HS.out.2 t (List.mem_of_getElem? ht))
   have HN := Lib.hid (refCloneTx_is t (hX.below HB1.out) HTM.out)
   have HTK := Lib.hid (show x.f3.take (k + 1) = x.f3.take k ++ [t] by rw [List.take_add_one, ht]; rfl)
   clear hX ht
   go_wp2_with fail
   refine HN.out.mono ?_
   rintro e w3 ⟨v2, v3, v4, v5, rfl, r2, r3, r4, r5, hb⟩
   obtain ⟨N2, n2, rfl⟩ := Kd.R_slice r2
   obtain ⟨N3, n3, rfl⟩ := Kd.R_slice r3
   obtain ⟨N4, n4, rfl⟩ := Kd.R_slice r4
   obtain ⟨N5, n5, rfl⟩ := Kd.R_slice r5
   have HBB := Lib.hid (HB1.out.trans (hb.mono HB1.out.size))
   have HZW := Lib.hid (show w0.heap.size ≤ wr.heap.size from HB.out.size)
   have HZ1 := Lib.hid (Nat.le_trans HZW.out HB1.out.size)
   have R2 := Lib.hid (show Kd.R (Kd.int .u8) 5 w3 w0.heap.size (fun k => wr.heap.size ≤ k) _ t.f2 from Kd.R_mono (Kd.R_lower (Kd.R_bound r2) HZ1.out) (fun k hk => Nat.le_trans HB1.out.size hk.2.1))
   have R3 := Lib.hid (show Kd.R (Kd.int .i64) 2 w3 w0.heap.size (fun k => wr.heap.size ≤ k) _ t.f3 from Kd.R_mono (Kd.R_lower (Kd.R_bound r3) HZ1.out) (fun k hk => Nat.le_trans HB1.out.size hk.2.1))
   have R4 := Lib.hid (show Kd.R G.k54 54 w3 w0.heap.size (fun k => wr.heap.size ≤ k) _ t.f4 from Kd.R_mono (Kd.R_lower (Kd.R_bound r4) HZ1.out) (fun k hk => Nat.le_trans HB1.out.size hk.2.1))
   have R5 := Lib.hid (show Kd.R G.k54 54 w3 w0.heap.size (fun k => wr.heap.size ≤ k) _ t.f5 from Kd.R_mono (Kd.R_lower (Kd.R_bound r5) HZ1.out) (fun k hk => Nat.le_trans HB1.out.size hk.2.1))
   have HS3 := Lib.hid (show Kd.S G.k32 32 w3 w0.heap.size (fun k => True ∧ ¬ wr.heap.size ≤ k) (.slice Av k cv) (x.f3.take k) from Kd.S_mono (Kd.S_step (Kd.S_bound HSS.out) (fun k hk2 hlt => HBB.out.block k hlt)) (fun k hk => ⟨trivial, by have := hk.2.2.1; omega⟩))
   have HOWN := Lib.hid (Kd.S_lt HSS.out)
   have HZ3 := Lib.hid (Nat.le_trans HZW.out HBB.out.size)
   have hkl : (x.f3.take k).length ≤ 1048576 := by rw [List.length_take]; omega
   clear r2 r3 r4 r5 hb e0 e1 e2 e3 e4 e5
   go_wp2_with ((with_reducible refine gate_builtin (b := .append) (xs := #[.tmp 12, .tmp 19]) rfl ?_); at_builtin; refine Kd.S_append G.k32 (w0 := w3) w0.heap.size rfl (.tmp 12) (.tmp 19) 22 32 (.agg #[.int .i64 0, .int .i64 0, .slice none 0 0, .slice none 0 0, .slice none 0 0, .slice none 0 0]) 112 rfl Try.underlying22 G.info32 rfl (by decide) (by omega) _ (x.f3.take k) t [.int .i64 t.f0, .int .i64 t.f1, .slice N2 t.f2.length n2, .slice N3 t.f3.length n3, .slice N4 t.f4.length n4, .slice N5 t.f5.length n5] (fun _ => True) (fun k => wr.heap.size ≤ k) rfl rfl (G.k32_mkM _ _ _ t R2.out R3.out R4.out R5.out) (fun k hk => ⟨trivial, fun e => by have := HOWN.out k e.symm; omega⟩) (fun _ _ => trivial) HS3.out (Below.refl _ _) HZ3.out (by omega) ?_; intro v1 w5 ho hb5 hg5 hat; rw [← HTK.out] at ho; have HS5 := Lib.hid ho; have HB5 := Lib.hid ((HB.out.trans (HBB.out.mono HB.out.size)).trans hb5); have HT5 := Lib.hid ((HT.out.below HBB.out).grow HT0.out.hz HT0.out.hz2 HT0.out.d.size hb5); clear ho hb5 hg5 hat)
   go_roundw
   case rel => exact ⟨k + 1, by go_num, hlt, HS5.out, HT5.out, HB5.out⟩
   case measure => simp [intOf]; omega
  ·have hkl : k = x.f3.length := by omega
   subst hkl
   rw [List.take_length] at HSS
   have q3 : wr.cell? ⟨g, 3, none⟩ = some (.slice A x.f3.length c) := (blk_cell HT.out.y 3).trans rfl
   have z3 : wr.frozen? ⟨g, 3, none⟩ = false := blk_frozen HT.out.y 3
   have d0 : wr.cell? ⟨g, 0, none⟩ = some (.int .i64 x.f0) := (blk_cell HT.out.y 0).trans rfl
   have d1 : wr.cell? ⟨g, 1, none⟩ = some (.int .i64 x.f1) := (blk_cell HT.out.y 1).trans rfl
   have d2 : wr.cell? ⟨g, 2, none⟩ = some (.int .i64 x.f2) := (blk_cell HT.out.y 2).trans rfl
   have e0 : wr.cell? ⟨g + 1, 0, none⟩ = some (.int .i64 0) := (blk_cell HT.out.g0 0).trans rfl
   have y0 : wr.frozen? ⟨g + 1, 0, none⟩ = false := blk_frozen HT.out.g0 0
   have e1 : wr.cell? ⟨g + 1, 1, none⟩ = some (.int .i64 0) := (blk_cell HT.out.g0 1).trans rfl
   have y1 : wr.frozen? ⟨g + 1, 1, none⟩ = false := blk_frozen HT.out.g0 1
   have e2 : wr.cell? ⟨g + 1, 2, none⟩ = some (.int .i64 0) := (blk_cell HT.out.g0 2).trans rfl
   have y2 : wr.frozen? ⟨g + 1, 2, none⟩ = false := blk_frozen HT.out.g0 2
   have e3 : wr.cell? ⟨g + 1, 3, none⟩ = some (.slice none 0 0) := (blk_cell HT.out.g0 3).trans rfl
   have y3 : wr.frozen? ⟨g + 1, 3, none⟩ = false := blk_frozen HT.out.g0 3
   go_wp2_with fail
   have HT1 := Lib.hid ((HT.out.and ((Sv.of HSS.out HT0.out.d.size).held (fun k hk => by have h1 := HT0.out.hz; have h2 := HT0.out.hz2; rcases hk with rfl | rfl <;> omega))).set 3 (.slice Av x.f3.length cv) #[.int .i64 x.f0, .int .i64 x.f1, .int .i64 x.f2, .slice Av x.f3.length cv] (blk_put HT.out.y 3 _ rfl))
   obtain ⟨w1, hw⟩ : ∃ w1, wr.setCell ⟨g, 3, none⟩ (.slice Av x.f3.length cv) = w1 := ⟨_, rfl⟩
   rw [hw] at HT1 ⊢
   clear hw
   have HEB := Lib.hid (blk_put (cs := #[.int .i64 x.f0, .int .i64 x.f1, .int .i64 x.f2, .slice none 0 0]) (blk_put (cs := #[.int .i64 x.f0, .int .i64 x.f1, .int .i64 0, .slice none 0 0]) (blk_put (cs := #[.int .i64 x.f0, .int .i64 0, .int .i64 0, .slice none 0 0]) (blk_put (cs := #[.int .i64 0, .int .i64 0, .int .i64 0, .slice none 0 0]) HT1.out.g0 0 (.int .i64 x.f0) rfl) 1 (.int .i64 x.f1) rfl) 2 (.int .i64 x.f2) rfl) 3 (.slice Av x.f3.length cv) rfl)
   have HD := Lib.hid (HT1.out.done (((((KeepS.refl (fun k => k = g + 1 ∨ k = g) w1).set (p := ⟨g + 1, 0, none⟩) (.inl (.inl rfl)) (.int .i64 x.f0)).set (p := ⟨g + 1, 1, none⟩) (.inl (.inl rfl)) (.int .i64 x.f1)).set (p := ⟨g + 1, 2, none⟩) (.inl (.inl rfl)) (.int .i64 x.f2)).set (p := ⟨g + 1, 3, none⟩) (.inl (.inl rfl)) (.slice Av x.f3.length cv)))
   obtain ⟨W, hW⟩ : ∃ W, ((((w1.setCell ⟨g + 1, 0, none⟩ (.int .i64 x.f0)).setCell ⟨g + 1, 1, none⟩ (.int .i64 x.f1)).setCell ⟨g + 1, 2, none⟩ (.int .i64 x.f2)).setCell ⟨g + 1, 3, none⟩ (.slice Av x.f3.length cv)) = W := ⟨_, rfl⟩
   rw [hW] at HEB HD ⊢
   clear hW
   refine bodyPost_ret (results_cell_row rfl _ _ (g + 1) 36 #[.int .i64 x.f0, .int .i64 x.f1, .int .i64 x.f2, .slice Av x.f3.length cv] (0, 0) _ rfl HEB.out Try.underlying36 rfl (by kernel_rfl)) rfl ?_
   obtain ⟨⟨-, p3⟩, dd⟩ := HD.out
   exact ⟨_, rfl, Kd.S_mono p3 (fun _ _ => trivial), dd⟩
end Go.Proofs.Ytgmlpmdfkaadhaa.M
end

section
/- The reference's sequencer: New and Take. -/
attribute [local irreducible] Go.wpStill
namespace Go.Proofs.Ytgmlpmdfkaadhaa.M
open Go.RowKit Go.Proofs.YtgmlpmdfkaadhaaW.PrintWords Go.Proofs.YtgmlpmdfkaadhaaW.PrintLast Go.Proofs.YtgmlpmdfkaadhaaW.PrintMore Go.Proofs.Ytgmlpmdfkaadhaa.G
theorem TR.get {B : Nat} {W : World} {A : Option Addr} {n c : Nat} {l : List TxD} (h : TR B W (.slice A n c) l) {j : Nat} {x : TxD} (hj : l[j]? = some x) :
  ∃ ad A2 c2 A3 c3 A4 c4 A5 c5, A = some ad ∧ TxAt W (ad.add (j * 6)) x A2 c2 A3 c3 A4 c4 A5 c5 ∧ Kd.FK G.k32 W (Inn B W) x [.int .i64 x.f0, .int .i64 x.f1, .slice A2 x.f2.length c2, .slice A3 x.f3.length c3, .slice A4 x.f4.length c4, .slice A5 x.f5.length c5] := by
 obtain ⟨inner, hq, hr⟩ := h
 have hn : n = l.length := by
  obtain ⟨A', c', he, _⟩ := q_slice hq
  injection he
 subst hn
 obtain ⟨ad, rfl, hc⟩ := q_cells hq (by have := (List.getElem?_eq_some_iff.1 hj).1; omega)
 have hK := hr.2 j x hj
 obtain ⟨A2, c2, A3, c3, A4, c4, A5, c5, he, _⟩ := G.k32_open (Kd.FK_now hK)
 have hcc : ∀ (i : Nat) (u : Value), ([.int .i64 x.f0, .int .i64 x.f1, .slice A2 x.f2.length c2, .slice A3 x.f3.length c3, .slice A4 x.f4.length c4, .slice A5 x.f5.length c5] : List Value)[i]? = some u → W.cell? (ad.add (j * 6 + i)) = some u := fun i u hu => by
  rw [← he, List.getElem?_take] at hu
  split at hu
  ·rw [List.getElem?_drop] at hu
   exact hc _ u hu
  ·cases hu
 rw [he] at hK
 refine ⟨ad, A2, c2, A3, c3, A4, c4, A5, c5, rfl, ⟨by simpa using hcc 0 _ rfl, ?_, ?_, ?_, ?_, ?_⟩, hK⟩
 ·rw [← add_field ad (j * 6) 1 (by omega)]; exact hcc 1 _ rfl
 ·rw [← add_field ad (j * 6) 2 (by omega)]; exact hcc 2 _ rfl
 ·rw [← add_field ad (j * 6) 3 (by omega)]; exact hcc 3 _ rfl
 ·rw [← add_field ad (j * 6) 4 (by omega)]; exact hcc 4 _ rfl
 ·rw [← add_field ad (j * 6) 5 (by omega)]; exact hcc 5 _ rfl
theorem TxAt.move {w w' : World} {p : Addr} {x : TxD} {A2 A3 A4 A5 : Option Addr} {c2 c3 c4 c5 : Nat} (h : TxAt w p x A2 c2 A3 c3 A4 c4 A5 c5) (hb : w'.heap[p.block]? = w.heap[p.block]?) : TxAt w' p x A2 c2 A3 c3 A4 c4 A5 c5 :=
 ⟨(World.cell?_of_block (a := p) hb).trans h.e0, (World.cell?_of_block (a := ⟨p.block, p.off + 1, none⟩) hb).trans h.e1, (World.cell?_of_block (a := ⟨p.block, p.off + 2, none⟩) hb).trans h.e2, (World.cell?_of_block (a := ⟨p.block, p.off + 3, none⟩) hb).trans h.e3, (World.cell?_of_block (a := ⟨p.block, p.off + 4, none⟩) hb).trans h.e4, (World.cell?_of_block (a := ⟨p.block, p.off + 5, none⟩) hb).trans h.e5⟩
structure IsRq (B : Nat) (W : World) (q : Nat) (s : SqS) (A : Option Addr) (c : Nat) : Prop where
 y : W.heap[q]? = some (.cells #[.int .i64 s.r, .slice A s.l.length c, .int .i64 s.n, .int .i64 s.t] 62)
 r : TR B W (.slice A s.l.length c) s.l
 o : OkQ s
 bg : B ≤ q
section
variable {B : Nat} {W W' : World} {q : Nat} {s : SqS} {A : Option Addr} {c : Nat}
theorem IsRq.glt (h : IsRq B W q s A c) : q < W.heap.size := (Array.getElem?_eq_some_iff.1 h.y).1
theorem IsRq.own_ne (h : IsRq B W q s A c) {a : Addr} (ha : A = some a) : a.block ≠ q := by
 obtain ⟨_, cells, hc⟩ := h.r.typed _ (own_iff.2 ⟨a, ha, rfl⟩)
 intro e
 have := h.y
 rw [← e, hc] at this
 injection this with this
 injection this with _ this
 exact absurd this (by decide)
theorem IsRq.out (h : IsRq B W q s A c) : ∀ k, sqS q q A k → ¬ Inn B W k := by
 rintro k (rfl | rfl | ⟨a, ha, rfl⟩)
 ·exact not_inn h.bg h.y rq_not
 ·exact not_inn h.bg h.y rq_not
 ·exact h.r.not_inn _ (own_iff.2 ⟨a, ha, rfl⟩)
theorem IsRq.lt (h : IsRq B W q s A c) : ∀ k, sqS q q A k → k < W.heap.size := by
 rintro k (rfl | rfl | ⟨a, ha, rfl⟩)
 ·exact h.glt
 ·exact h.glt
 ·exact h.r.lt _ (own_iff.2 ⟨a, ha, rfl⟩)
theorem IsRq.ge (h : IsRq B W q s A c) : ∀ k, sqS q q A k → B ≤ k := by
 rintro k (rfl | rfl | ⟨a, ha, rfl⟩)
 ·exact h.bg
 ·exact h.bg
 ·exact (h.r.typed _ (own_iff.2 ⟨a, ha, rfl⟩)).1
theorem IsRq.keep {S : Nat → Prop} (h : IsRq B W q s A c) (hk : KeepS S W W') (hs : ∀ k, S k → ¬ Inn B W k) (hd : ∀ k, sqS q q A k → ¬ S k) : IsRq B W' q s A c :=
 ⟨(hk.block q h.glt (hd q (.inl rfl))).trans h.y, h.r.keep hk hs (fun k e => hd k (.inr (.inr (own_iff.1 e)))), h.o, h.bg⟩
theorem IsRq.below (h : IsRq B W q s A c) (hb : Below W.heap.size W W') : IsRq B W' q s A c := h.keep (KeepS.of_below (fun _ => False) hb) (fun _ h => h.elim) (fun _ _ h => h)
end
theorem rnew_is {w : World} {r : Int} (h : 0 ≤ r ∧ r ≤ 4) {B : Nat} (hB : B ≤ w.heap.size) : Calls Try.prog 16 #[.int .i64 r] w fun e w' => e = .returned (.tuple #[.pointer (some ⟨w.heap.size, 0, none⟩), .int .i64 0]) ∧ IsRq B w' w.heap.size (newQ r) none 0 ∧ Below w.heap.size w w' := by
 have q : decide (r < 0) = false := decide_eq_false (by omega)
 have q2 : decide (5 ≤ r) = false := decide_eq_false (by omega)
 have HR := Lib.hid h; have HB := Lib.hid hB
 clear h hB
 go_enter Try.func16, Try.ntmps16
 go_wp2_with fail
 go_ret2
 exact ⟨rfl, ⟨heap_alloc_new w _, TR.nil _ _, newQ_ok HR.out, HB.out⟩, (Below.refl _ _).alloc (Nat.le_refl _) _⟩
set_option maxHeartbeats 2000000 in
theorem rtake_nob {B : Nat} {W : World} {q : Nat} {s : SqS} {A : Option Addr} {c : Nat} (h : IsRq B W q s A c) {t : TxD} {A2 A3 A4 A5 : Option Addr} {c2 c3 c4 c5 : Nat} (hF : Kd.FK G.k32 W (Inn B W) t [.int .i64 t.f0, .int .i64 t.f1, .slice A2 t.f2.length c2, .slice A3 t.f3.length c3, .slice A4 t.f4.length c4, .slice A5 t.f5.length c5]) (ho : okT t = true) (hm : mayT t = false) :
  Calls Try.prog 18 #[.pointer (some ⟨q, 0, none⟩), .agg #[.int .i64 t.f0, .int .i64 t.f1, .slice A2 t.f2.length c2, .slice A3 t.f3.length c3, .slice A4 t.f4.length c4, .slice A5 t.f5.length c5]] W fun e w' => e = .returned (.int .i64 1) ∧ Below W.heap.size W w' := by
 obtain ⟨hx, hb⟩ : (W.alloc (.cells #[.int .i64 t.f0, .int .i64 t.f1, .slice A2 t.f2.length c2, .slice A3 t.f3.length c3, .slice A4 t.f4.length c4, .slice A5 t.f5.length c5] 32)).heap[W.heap.size]? = some (.cells #[.int .i64 t.f0, .int .i64 t.f1, .slice A2 t.f2.length c2, .slice A3 t.f3.length c3, .slice A4 t.f4.length c4, .slice A5 t.f5.length c5] 32) ∧ Below W.heap.size W (W.alloc (.cells #[.int .i64 t.f0, .int .i64 t.f1, .slice A2 t.f2.length c2, .slice A3 t.f3.length c3, .slice A4 t.f4.length c4, .slice A5 t.f5.length c5] 32)) := ⟨heap_alloc_new W _, (Below.refl _ W).alloc (Nat.le_refl _) _⟩
 obtain ⟨w0, hw⟩ : ∃ V, W.alloc (.cells #[.int .i64 t.f0, .int .i64 t.f1, .slice A2 t.f2.length c2, .slice A3 t.f3.length c3, .slice A4 t.f4.length c4, .slice A5 t.f5.length c5] 32) = V := ⟨_, rfl⟩
 rw [hw] at hx hb
 have HX0 := Lib.hid hx; have HB0 := Lib.hid hb; have HF0 := Lib.hid (FK_calm hF (.of_below hb)); have HQ := Lib.hid h
 have HO := Lib.hid ho
 have HW := Lib.hid hw
 have HLT := Lib.hid (show (∀ k, sqS q q A k → k < W.heap.size) ∧ B ≤ W.heap.size from ⟨h.lt, Nat.le_trans h.bg (Nat.le_of_lt h.glt)⟩)
 have HE := Lib.hid (show okE 1 0 0 [t] = true ∧ (entF 1 0 0 [t]).2 = 40 from ⟨by unfold okE; rw [List.all_cons, ho]; rfl, by rw [one_err ho, if_neg (by rw [hm]; simp)]⟩)
 have HR := Lib.hid (show qTake s t = (s, 1) by unfold qTake; rw [if_pos hm])
 clear hm
 clear h hF hx hb ho hw
 go_enter Try.func18, Try.ntmps18
 go_upto_region 1 with fail
 rw [HW.out]
 refine wp_region_list ?_
 refine wpList_load_row rfl 32 (.tmp 3) rfl W.heap.size rfl 32 #[.int .i64 t.f0, .int .i64 t.f1, .slice A2 t.f2.length c2, .slice A3 t.f3.length c3, .slice A4 t.f4.length c4, .slice A5 t.f5.length c5] (0, 0) _ HX0.out Try.underlying32 rfl (by kernel_rfl) ?_
 go_wp2_with fail
 have hb1 := (Below.refl w0.heap.size w0).alloc (Nat.le_refl _) (.cells #[.int .i64 t.f0, .int .i64 t.f1, .slice A2 t.f2.length c2, .slice A3 t.f3.length c3, .slice A4 t.f4.length c4, .slice A5 t.f5.length c5] 32)
 have h1 : Kd.C G.k32 (w0.alloc (.cells #[.int .i64 t.f0, .int .i64 t.f1, .slice A2 t.f2.length c2, .slice A3 t.f3.length c3, .slice A4 t.f4.length c4, .slice A5 t.f5.length c5] 32)) (some ⟨w0.heap.size, 0, none⟩) 1 [t] := C_tx1 (txC_of HF0.out) _
 have HB1 := Lib.hid (HB0.out.trans (hb1.mono HB0.out.size)); have HC1 := Lib.hid h1
 have HX1 := Lib.hid ((hb1.block _ (blk_lt HX0.out)).trans HX0.out); have HF1 := Lib.hid (FK_calm HF0.out (.of_below hb1))
 obtain ⟨ob, hob⟩ : ∃ ob, w0.heap.size = ob := ⟨_, rfl⟩
 obtain ⟨w1, hw1⟩ : ∃ V, w0.alloc (.cells #[.int .i64 t.f0, .int .i64 t.f1, .slice A2 t.f2.length c2, .slice A3 t.f3.length c3, .slice A4 t.f4.length c4, .slice A5 t.f5.length c5] 32) = V := ⟨_, rfl⟩
 rw [hw1] at HB1 HC1 HX1 HF1 ⊢
 rw [hob] at HC1 ⊢
 have h4 := refEntry_is (w := w1) ⟨1, 0, 0, [t]⟩ (E := some ⟨ob, 0, none⟩) (ce := 1) HC1.out (Nat.le_refl 1) HE.out.1
 dsimp only at h4
 rw [HE.out.2] at h4
 clear h1 hb1 hw1 hob
 refine h4.mono ?_
 rintro e w2 ⟨v, rfl, hv, hb⟩
 have HB2 := Lib.hid (HB1.out.trans (hb.mono HB1.out.size)); have HC2 := Lib.hid (Kd.C_below HC1.out hb); have HX2 := Lib.hid ((hb.block _ (blk_lt HX1.out)).trans HX1.out); have HF2 := Lib.hid (FK_calm HF1.out (.of_below hb))
 clear h4 hv hb HB1 HC1 HX1 HF1 HX0 HB0 HF0 HW
 go_wp2_with fail
 go_ret
 exact ⟨rfl, HB2.out⟩
end Go.Proofs.Ytgmlpmdfkaadhaa.M
end

section
/- A row of one transaction all of whose blocks were made from lo on. -/
namespace Go.Proofs.Ytgmlpmdfkaadhaa.M
open Go.RowKit Go.Proofs.YtgmlpmdfkaadhaaW.PrintWords Go.Proofs.YtgmlpmdfkaadhaaW.PrintLast Go.Proofs.YtgmlpmdfkaadhaaW.PrintMore Go.Proofs.Ytgmlpmdfkaadhaa.G
def Inl (lo : Nat) (W : World) (k : Nat) : Prop := lo ≤ k ∧ k < W.heap.size ∧ ∃ q, q ∈ (G.k32).E ∧ ∃ cells, W.heap[k]? = some (.cells cells q (0, 0))
section
variable {lo lo' B : Nat} {W W' : World} {t : TxD} {cs : List Value} {A' : Option Addr} {c' : Nat}
theorem Fl_keep {S : Nat → Prop} (h : Kd.FK G.k32 W (Inl lo W) t cs) (hk : KeepS S W W') (hS : ∀ k, S k → k < lo) : Kd.FK G.k32 W' (Inl lo W') t cs :=
 Kd.FK_mono (Kd.FK_step h (fun k hk' hlt => hk.block k hlt (fun e => by have := hS k e; have := hk'.1; omega))) (fun k hk' => by
  obtain ⟨h1, h2, q, hq, cells, hc⟩ := hk'
  have hm := hk.block k h2 (fun e => by have := hS k e; omega)
  exact ⟨h1, Nat.lt_of_lt_of_le h2 hk.size, q, hq, cells, hm.trans hc⟩)
theorem Fl_below (h : Kd.FK G.k32 W (Inl lo W) t cs) (hb : Below W.heap.size W W') : Kd.FK G.k32 W' (Inl lo W') t cs := Fl_keep h (KeepS.of_below (fun _ => False) hb) (fun _ e => e.elim)
theorem Fl_inn (h : Kd.FK G.k32 W (Inl lo W) t cs) : Kd.FK G.k32 W (Inn B W) t cs := Kd.FK_mono h (fun k hk => .inr hk.2)
theorem fl_new {o2 o3 o4 o5 : Nat → Prop} {v2 v3 v4 v5 : Value} (h2 : Kd.R (Kd.int .u8) 5 W lo o2 v2 t.f2) (h3 : Kd.R (Kd.int .i64) 2 W lo o3 v3 t.f3) (h4 : Kd.R G.k54 54 W lo o4 v4 t.f4) (h5 : Kd.R G.k54 54 W lo o5 v5 t.f5) (hl : lo' ≤ lo) :
  Kd.FK G.k32 W (Inl lo' W) t [.int .i64 t.f0, .int .i64 t.f1, v2, v3, v4, v5] := by
 have hM := G.k32_mkM W lo (fun _ => True) t (Kd.R_mono h2 (fun _ _ => trivial)) (Kd.R_mono h3 (fun _ _ => trivial)) (Kd.R_mono h4 (fun _ _ => trivial)) (Kd.R_mono h5 (fun _ _ => trivial))
 exact Kd.FK_mono (Kd.FK_of_M (Kd.M_bound _ hM)) (fun k hk => ⟨Nat.le_trans hl hk.2.1, hk.2.2.1, hk.2.2.2⟩)
theorem fl_row {ok : Nat → Prop} {E : Option Addr} {ce : Nat} (h : Kd.R G.k32 32 W lo ok (.slice E 1 ce) [t]) (hl : lo' ≤ lo) :
  ∃ ad A2 c2 A3 c3 A4 c4 A5 c5, E = some ad ∧ TxAt W ad t A2 c2 A3 c3 A4 c4 A5 c5 ∧ Kd.FK G.k32 W (Inl lo' W) t [.int .i64 t.f0, .int .i64 t.f1, .slice A2 t.f2.length c2, .slice A3 t.f3.length c3, .slice A4 t.f4.length c4, .slice A5 t.f5.length c5] := by
 obtain ⟨_, inner, ho, hr⟩ := h
 obtain ⟨ad, rfl, hc⟩ := q_cells (q_of_own ho) (by decide)
 have hM := hr.2 0 t rfl
 have hK := Kd.FK_of_M (Kd.M_bound _ hM)
 have hlen : inner.length = 6 := hr.1
 have e6 : (inner.drop (0 * 6)).take 6 = inner := by rw [Nat.zero_mul, List.drop_zero, List.take_of_length_le (by omega)]
 have hs : (G.k32).sz = 6 := rfl
 rw [hs, e6] at hK
 obtain ⟨A2, c2, A3, c3, A4, c4, A5, c5, rfl, _⟩ := G.k32_open (Kd.FK_now hK)
 have hc2 : ∀ (i : Nat) (u : Value), ([.int .i64 t.f0, .int .i64 t.f1, .slice A2 t.f2.length c2, .slice A3 t.f3.length c3, .slice A4 t.f4.length c4, .slice A5 t.f5.length c5] : List Value)[i]? = some u → W.cell? (ad.add (0 * 6 + i)) = some u := fun i u hu => by
  rw [Nat.zero_mul, Nat.zero_add]
  exact hc i u hu
 have hA : TxAt W (ad.add (0 * 6)) t A2 c2 A3 c3 A4 c4 A5 c5 := by
  refine ⟨by simpa using hc2 0 _ rfl, ?_, ?_, ?_, ?_, ?_⟩
  ·rw [← add_field ad (0 * 6) 1 (by omega)]; exact hc2 1 _ rfl
  ·rw [← add_field ad (0 * 6) 2 (by omega)]; exact hc2 2 _ rfl
  ·rw [← add_field ad (0 * 6) 3 (by omega)]; exact hc2 3 _ rfl
  ·rw [← add_field ad (0 * 6) 4 (by omega)]; exact hc2 4 _ rfl
  ·rw [← add_field ad (0 * 6) 5 (by omega)]; exact hc2 5 _ rfl
 have e0 : ad.add (0 * 6) = ad := by simp [Addr.add]
 rw [e0] at hA
 exact ⟨ad, A2, c2, A3, c3, A4, c4, A5, c5, rfl, hA, Kd.FK_mono hK (fun k hk => ⟨Nat.le_trans hl hk.2.1, hk.2.2.1, hk.2.2.2⟩)⟩
def Fresh1 (lo : Nat) (W : World) (A' : Option Addr) (c' : Nat) (t : TxD) : Prop := ∃ news, QRow W lo 32 6 (.slice A' 1 c') 1 news ∧ Kd.FK G.k32 W (Inl lo W) t news
theorem Fresh1.keep {S : Nat → Prop} (h : Fresh1 lo W A' c' t) (hk : KeepS S W W') (hS : ∀ k, S k → k < lo) : Fresh1 lo W' A' c' t := by
 obtain ⟨news, hq, hf⟩ := h
 exact ⟨news, q_move hq (fun k e => hk.block k (q_lt hq k e) (fun e2 => by have := hS k e2; have := (q_typed hq k e).1; omega)), Fl_keep hf hk hS⟩
theorem Fresh1.below (h : Fresh1 lo W A' c' t) (hb : Below W.heap.size W W') : Fresh1 lo W' A' c' t := h.keep (KeepS.of_below (fun _ => False) hb) (fun _ e => e.elim)
theorem Fresh1.tr (h : Fresh1 lo W A' c' t) (hB : B ≤ lo) : TR B W (.slice A' 1 c') [t] := by
 obtain ⟨news, hq, hf⟩ := h
 have hl : news.length = 6 := Kd.K_len _ (Kd.FK_now hf)
 refine ⟨news, q_lower hq hB, by rw [hl]; rfl, fun j p hj => ?_⟩
 cases j with
 | zero =>
  simp at hj
  subst hj
  rw [Nat.zero_mul, List.drop_zero, List.take_of_length_le (by omega)]
  exact Fl_inn hf
 | succ j => simp at hj
end
section
variable {lo : Nat} {W : World} {ops : Array Oper} {rest : List Oper} {o : Oper} {a : Act} {Q : Exit → Act → World → Prop} {Kc : Act → World → Prop}
theorem fr_append_step (hw : Region.wanted o (yielded ops a.tmps) = true) (s x : Operand) (ho : o.op = .call { callee := .builtin .append, args := #[s, x], argTypes := #[22, 22] })
  {v : Value} {t : TxD} {news : List Value} {ad : Addr} {c : Nat} (hs : a.eval s = v) (hv : v = .slice none 0 0) (hx : a.eval x = .slice (some ad) 1 c) (hn : ∀ j u, news[j]? = some u → W.cell? (ad.add j) = some u) (hf : Kd.FK G.k32 W (Inl lo W) t news) (hB : lo ≤ W.heap.size)
  (hK : ∀ A' c' w', 1 ≤ c' → Fresh1 lo w' A' c' t → W.grownBy w' none → (∀ a, A' = some a → W.heap.size ≤ a.block) → Kc (a.put o.dst (.slice A' 1 c')) w') :
  if Region.wanted o (yielded ops a.tmps) = true then Oper.wp Try.prog o a W Kc Q else Kc (a.put o.dst undef) W := by
 subst hv
 obtain ⟨i0, hi, hzz⟩ := Option.map_eq_some_iff.1 G.info32
 simp only [Prod.mk.injEq] at hzz
 obtain ⟨hz0, hz1, hz2⟩ := hzz
 have hl : news.length = 6 := Kd.K_len _ (Kd.FK_now hf)
 obtain ⟨v', w', hr, hq1, hg, hat⟩ := q_append (P := Try.prog) W lo 22 o.type 32 i0 _ 6 112 Try.underlying22 hi hz0 hz1 hz2 rfl (by decide) (.slice none 0 0) 0 [] (q_of_own (own_nil _ _ _ _)) ad 1 c news (by rw [hl]) hn (fun u hu => Kd.K_one _ (Kd.FK_now hf) u hu) (by decide) (by simp only [maxLen]; omega) (by omega) hB
 obtain ⟨A', c', rfl, hc⟩ := q_slice hq1
 have hnew : ∀ a, A' = some a → W.heap.size ≤ a.block := fun a ha => by
  rcases NewRow.of (A := none) (n := 0) (c := 0) hat a ha with ⟨a0, e, _⟩ | e
  ·cases e
  ·exact e
 rw [if_pos hw]
 unfold Oper.wp execOp
 simp only [ho, resolve, invoke, builtin, Sem.run_bind, Sem.run_pure, Result.andThen_ok, List.map_toArray, List.map_cons, List.map_nil, hs, hx, hr]
 have hk : KeepS (fun _ => False) W w' := KeepS.of_grown hg (fun i hi => by cases hi)
 exact hK A' c' w' hc ⟨news, hq1, Fl_keep hf hk (fun _ e => e.elim)⟩ hg hnew
end
end Go.Proofs.Ytgmlpmdfkaadhaa.M
end

section
/- Take of a first transaction: the row was made by the call. -/
attribute [local irreducible] Go.wpStill
namespace Go.Proofs.Ytgmlpmdfkaadhaa.M
open Go.RowKit Go.Proofs.YtgmlpmdfkaadhaaW.PrintWords Go.Proofs.YtgmlpmdfkaadhaaW.PrintLast Go.Proofs.YtgmlpmdfkaadhaaW.PrintMore Go.Proofs.Ytgmlpmdfkaadhaa.G
def TakeO (B : Nat) (W : World) (g mp nb : Nat) (s : SqS) (A : Option Addr) (t : TxD) (e : Ending) (w' : World) : Prop :=
 ∃ A' c', e = .returned (.int .i64 0) ∧ IsSq B w' g mp (nb + 1) { s with l := [t] } A' c' ∧ KeepS (sqS g mp A) W w' ∧ NewRow W A A' ∧ Fresh1 W.heap.size w' A' c' t
set_option maxHeartbeats 8000000 in
theorem take_own {B : Nat} {W : World} {g mp nb : Nat} {s : SqS} {A : Option Addr} {c : Nat} (h : IsSq B W g mp nb s A c) (hs0 : s.l = [] ∧ A = none ∧ c = 0) {t : TxD} {A2 A3 A4 A5 : Option Addr} {c2 c3 c4 c5 : Nat} (hF : Kd.FK G.k32 W (Inn B W) t [.int .i64 t.f0, .int .i64 t.f1, .slice A2 t.f2.length c2, .slice A3 t.f3.length c3, .slice A4 t.f4.length c4, .slice A5 t.f5.length c5]) (ho : okT t = true) (hm : mayT t = true) (hn : nb < maxLen) (hwf : wf2 .i64 .i64 (t.f0, t.f1)) :
  Calls Try.prog 10 #[.pointer (some ⟨g, 0, none⟩), .agg #[.int .i64 t.f0, .int .i64 t.f1, .slice A2 t.f2.length c2, .slice A3 t.f3.length c3, .slice A4 t.f4.length c4, .slice A5 t.f5.length c5]] W fun e w' => TakeO B W g mp nb s A t e w' := by
 have HWF := Lib.hid hwf; have HS0 := Lib.hid hs0
 clear hs0
 clear hwf
 obtain ⟨hx, hb⟩ : (W.alloc (.cells #[.int .i64 t.f0, .int .i64 t.f1, .slice A2 t.f2.length c2, .slice A3 t.f3.length c3, .slice A4 t.f4.length c4, .slice A5 t.f5.length c5] 32)).heap[W.heap.size]? = some (.cells #[.int .i64 t.f0, .int .i64 t.f1, .slice A2 t.f2.length c2, .slice A3 t.f3.length c3, .slice A4 t.f4.length c4, .slice A5 t.f5.length c5] 32) ∧ Below W.heap.size W (W.alloc (.cells #[.int .i64 t.f0, .int .i64 t.f1, .slice A2 t.f2.length c2, .slice A3 t.f3.length c3, .slice A4 t.f4.length c4, .slice A5 t.f5.length c5] 32)) := ⟨heap_alloc_new W _, (Below.refl _ W).alloc (Nat.le_refl _) _⟩
 obtain ⟨w0, hw⟩ : ∃ V, W.alloc (.cells #[.int .i64 t.f0, .int .i64 t.f1, .slice A2 t.f2.length c2, .slice A3 t.f3.length c3, .slice A4 t.f4.length c4, .slice A5 t.f5.length c5] 32) = V := ⟨_, rfl⟩
 rw [hw] at hx hb
 have H := Lib.hid (noneOf (h.below hb))
 have HQ := Lib.hid (h.below hb)
 have HF := Lib.hid (FK_calm hF (.of_below hb)); have HX := Lib.hid hx; have HB := Lib.hid hb; have HN := Lib.hid hn; have HM := Lib.hid hm; have HO := Lib.hid ho
 have HLT := Lib.hid (show ∀ k, sqS g mp A k → k < W.heap.size from h.lt)
 have HE := Lib.hid (show okE 1 0 0 [t] = true ∧ (entF 1 0 0 [t]).2 = 0 from ⟨by unfold okE; rw [List.all_cons, ho]; rfl, by rw [one_err ho, if_pos hm]⟩)
 clear h hF hx hb hn hm ho
 go_enter Try.func10, Try.ntmps10
 go_wp2_with fail
 refine H.out.mono ?_
 rintro e w' ⟨rfl, rfl⟩
 go_upto_region 3 with fail
 refine wp_region_list ?_
 refine wpList_load_row rfl 32 (.tmp 3) rfl W.heap.size rfl 32 #[.int .i64 t.f0, .int .i64 t.f1, .slice A2 t.f2.length c2, .slice A3 t.f3.length c3, .slice A4 t.f4.length c4, .slice A5 t.f5.length c5] (0, 0) _ HX.out Try.underlying32 rfl (by kernel_rfl) ?_
 go_wp2_with fail
 have h4 := entry_is 1 0 0 (some ⟨w'.heap.size, 0, none⟩) 1 [t] (w'.alloc (.cells #[.int .i64 t.f0, .int .i64 t.f1, .slice A2 t.f2.length c2, .slice A3 t.f3.length c3, .slice A4 t.f4.length c4, .slice A5 t.f5.length c5] 32)) (C_tx1 (txC_of HF.out) _) HE.out.1
 rw [HE.out.2] at h4
 have h5 := (Below.refl w'.heap.size w').alloc (Nat.le_refl _) (.cells #[.int .i64 t.f0, .int .i64 t.f1, .slice A2 t.f2.length c2, .slice A3 t.f3.length c3, .slice A4 t.f4.length c4, .slice A5 t.f5.length c5] 32)
 refine h4.mono ?_
 rintro e w2 ⟨v, rfl, hv, hb⟩
 have HB2 := Lib.hid (h5.trans (hb.mono h5.size))
 clear h4 h5 hb hv H
 have d0 : w2.cell? ⟨W.heap.size, 0, none⟩ = some (.int .i64 t.f0) := (blk_cell ((HB2.out.block _ (blk_lt HX.out)).trans HX.out) 0).trans rfl
 have d1 : w2.cell? ⟨W.heap.size, 1, none⟩ = some (.int .i64 t.f1) := (blk_cell ((HB2.out.block _ (blk_lt HX.out)).trans HX.out) 1).trans rfl
 go_upto_region 7 with fail
 have HB3 := Lib.hid (HB2.out.alloc (HB2.out.size) (.cells #[.int .i64 t.f0, .int .i64 t.f1] 72))
 have HK3 := Lib.hid (heap_alloc_new w2 (.cells #[.int .i64 t.f0, .int .i64 t.f1] 72))
 obtain ⟨kb, hkb⟩ : ∃ kb, w2.heap.size = kb := ⟨_, rfl⟩
 have HKB := Lib.hid (show w'.heap.size ≤ kb by have := HB2.out.size; omega)
 obtain ⟨w3, hw3⟩ : ∃ V, w2.alloc (.cells #[.int .i64 t.f0, .int .i64 t.f1] 72) = V := ⟨_, rfl⟩
 rw [hw3] at HB3 HK3 ⊢
 rw [hkb] at HK3 ⊢
 clear hw3 hkb d0 d1 HB2
 have HQ3 := Lib.hid (HQ.out.below HB3.out)
 have HX3 := Lib.hid ((HB3.out.block _ (blk_lt HX.out)).trans HX.out)
 have HF3 := Lib.hid (FK_calm HF.out (.of_below HB3.out))
 have HW3 := Lib.hid (show Below W.heap.size W w3 from HB.out.trans (HB3.out.mono HB.out.size))
 clear HQ HX HF HB HB3 HE
 have e3 : w3.cell? ⟨g, 3, none⟩ = some (.map (some mp)) := (blk_cell HQ3.out.y 3).trans rfl
 have k0 : w3.cell? ⟨kb, 0, none⟩ = some (.int .i64 t.f0) := (blk_cell HK3.out 0).trans rfl
 have k1 : w3.cell? ⟨kb, 1, none⟩ = some (.int .i64 t.f1) := (blk_cell HK3.out 1).trans rfl
 refine wp_region_still_tail 5 (by kernel_rfl) (by kernel_rfl) ?_
 simp only [List.take_succ_cons, List.take_zero, List.drop_succ_cons, List.drop_zero]
 iterate 5 still_step
 refine wpStill_nil ?_
 change wpList _ _ _ _ _ w3.drew
 have HQ4 := Lib.hid (HQ3.out.below (Below.refl _ w3).drew)
 have HX4 := Lib.hid (show w3.drew.heap[W.heap.size]? = _ from HX3.out)
 have HK4 := Lib.hid (show w3.drew.heap[kb]? = _ from HK3.out)
 have HF4 := Lib.hid (FK_calm HF3.out (.of_below (Below.refl _ w3).drew))
 have HW4 := Lib.hid HW3.out.drew
 obtain ⟨w4, hw4⟩ : ∃ V, w3.drew = V := ⟨_, rfl⟩
 rw [hw4] at HQ4 HX4 HK4 HF4 HW4 ⊢
 clear hw4 HQ3 HX3 HK3 HF3 HW3 e3 k0 k1
 by_cases hq : waitsB s.l (keyTx t) = true
 ·exact absurd hq (by rw [HS0.out.1]; simp [waitsB])
 have HV := Lib.hid (show (mapQ s.l (t.f0, t.f1)).getD (.bool false) = .bool false by unfold mapQ; rw [if_neg (show ¬ waitsB s.l (t.f0, t.f1) = true from hq)]; rfl)
 have e2 : w4.cell? ⟨g, 2, none⟩ = some (.slice A s.l.length c) := (blk_cell HQ4.out.y 2).trans rfl
 by_cases hf : 64 ≤ s.l.length
 ·exact absurd hf (by rw [HS0.out.1]; simp)
 have HR := Lib.hid (show qTake s t = ({ s with l := s.l ++ [t] }, 0) by unfold qTake; rw [if_neg (by rw [HM.out]; simp), if_neg hq, if_neg hf])
 have HNO := Lib.hid (show mapQ s.l (t.f0, t.f1) = none by unfold mapQ; rw [if_neg (show ¬ waitsB s.l (t.f0, t.f1) = true from hq)])
 have HL := Lib.hid (show s.l.length < 64 by omega)
 have q : decide (64 ≤ s.l.length) = false := decide_eq_false hf
 have q2 : decide (64 ≤ (s.l.length : Int)) = false := decide_eq_false (by omega)
 clear hq hf
 go_upto_region 11 with (at_lookup; refine m_get_v _ HQ4.out.m keyQ 66 Try.underlying66 zeroBool rfl (.tmp 28) (.tmp 29) rfl (t.f0, t.f1) HWF.out HV.out rfl rfl ?_)
 clear q q2 e2
 have e3 : w4.cell? ⟨g, 3, none⟩ = some (.map (some mp)) := (blk_cell HQ4.out.y 3).trans rfl
 have k0 : w4.cell? ⟨kb, 0, none⟩ = some (.int .i64 t.f0) := (blk_cell HK4.out 0).trans rfl
 have k1 : w4.cell? ⟨kb, 1, none⟩ = some (.int .i64 t.f1) := (blk_cell HK4.out 1).trans rfl
 refine wp_region_still_tail 5 (by kernel_rfl) (by kernel_rfl) ?_
 simp only [List.take_succ_cons, List.take_zero, List.drop_succ_cons, List.drop_zero]
 iterate 5 still_step
 refine wpStill_nil ?_
 change wpList _ _ _ _ _ w4.drew
 have HQ5 := Lib.hid (HQ4.out.below (Below.refl _ w4).drew)
 have HX5 := Lib.hid (show w4.drew.heap[W.heap.size]? = _ from HX4.out)
 have HF5 := Lib.hid (FK_calm HF4.out (.of_below (Below.refl _ w4).drew))
 have HW5 := Lib.hid HW4.out.drew
 obtain ⟨w5, hw5⟩ : ∃ V, w4.drew = V := ⟨_, rfl⟩
 rw [hw5] at HQ5 HX5 HF5 HW5 ⊢
 clear hw5 HQ4 HX4 HK4 HF4 HW4 e3 k0 k1 HV
 go_upto_region 12 with (at_mapUpdate; refine m_put _ HQ5.out.m keyQ 66 Try.underlying66 HN.out rfl (.tmp 41) (.tmp 42) (.const (.bool true)) rfl (t.f0, t.f1) HWF.out (.bool true) rfl rfl rfl ?_; intro w6 hM hG; have HMM := Lib.hid hM; have HG := Lib.hid hG; clear hM hG)
 have HK6 := Lib.hid (KeepS.of_grown (S := sqS g mp A) HG.out (fun i hi => by injection hi with hi; exact .inr (.inl hi.symm)))
 have HC6 := Lib.hid (Calm.of_keep HK6.out HQ5.out.out)
 have HF6 := Lib.hid (FK_calm HF5.out HC6.out)
 have HY6 := Lib.hid ((HG.out.block g HQ5.out.glt (by simp only [ne_eq, Option.some.injEq]; exact HQ5.out.ne)).trans HQ5.out.y)
 have HT6 := Lib.hid (HQ5.out.r.calm HC6.out (fun k hk => HG.out.block k (HQ5.out.r.lt k hk) (by obtain ⟨a, ha, rfl⟩ := own_iff.1 hk; simp only [ne_eq, Option.some.injEq]; exact (HQ5.out.own_ne ha).2)))
 have HX6 := Lib.hid ((HG.out.block W.heap.size (blk_lt HX5.out) (by simp only [ne_eq, Option.some.injEq]; have := HLT.out mp (.inr (.inl rfl)); omega)).trans HX5.out)
 have HW6 := Lib.hid ((KeepS.of_below (sqS g mp A) HW5.out).trans HK6.out)
 have HO5 := Lib.hid (show (∀ a, A = some a → a.block ≠ g ∧ a.block ≠ mp) ∧ B ≤ g ∧ B ≤ mp ∧ g ≠ mp ∧ OkQ s from ⟨fun a ha => HQ5.out.own_ne ha, HQ5.out.bg, HQ5.out.bm, HQ5.out.ne, HQ5.out.o⟩)
 clear HQ5 HX5 HF5 HW5 HG HK6 HC6
 refine start_ (n := 12) (S := fun w' => w'.cell? ⟨g, 2, none⟩ = some (.slice A s.l.length c) ∧ w'.heap[W.heap.size]? = some (.cells #[.int .i64 t.f0, .int .i64 t.f1, .slice A2 t.f2.length c2, .slice A3 t.f3.length c3, .slice A4 t.f4.length c4, .slice A5 t.f5.length c5] 32)) (ds := [11]) #[false, false, false, false, false, false, false, false, false, false, false, false] (by kernel_rfl) rfl rfl ⟨(blk_cell (show w6.drew.heap[g]? = _ from HY6.out) 2).trans rfl, HX6.out⟩ (fun hHeld => ?_)
 have HF := Lib.hid (FK_calm HF6.out (.of_below (Below.refl _ w6).drew)); have HY := Lib.hid (show w6.drew.heap[g]? = _ from HY6.out); have HT := Lib.hid (HT6.out.below (Below.refl _ w6).drew); have HX := Lib.hid (show w6.drew.heap[W.heap.size]? = _ from HX6.out); have HW := Lib.hid HW6.out.drew; have HMP := Lib.hid (HMM.out.below (Below.refl _ w6).drew)
 obtain ⟨wa, hwa⟩ : ∃ wa, w6.drew = wa := ⟨_, rfl⟩
 rw [hwa] at HF HY HT HX HW HMP hHeld ⊢
 clear hwa HF6 HY6 HT6 HX6 HW6 HMM
 refine pure_ (i := 0) (N := some 43) (v := ?_) (a' := ?_) #[true, false, false, false, false, false, false, false, false, false, false, false] rfl rfl (by kernel_rfl) (fun _ _ _ h => h) (Or.inl ⟨by rfl, ?_⟩) ?_ ?_
 rotate_left
 ·intro w'
  go_simp
  try with_reducible rfl
 rotate_left
 ·simp only [Act.put, sq1, sq2, sq3, i64_w, i32_w]
  rfl
 refine pure_ (i := 1) (N := some 44) (v := ?_) (a' := ?_) #[true, true, false, false, false, false, false, false, false, false, false, false] rfl rfl (by kernel_rfl) (fun _ _ _ h => h) (Or.inl ⟨by rfl, ?_⟩) ?_ ?_
 rotate_left
 ·intro w'
  go_simp
  try with_reducible rfl
 rotate_left
 ·simp only [Act.put, sq1, sq2, sq3, i64_w, i32_w]
  rfl
 refine pure_ (i := 2) (N := some 45) (v := ?_) (a' := ?_) #[true, true, true, false, false, false, false, false, false, false, false, false] rfl rfl (by kernel_rfl) (fun _ _ _ h => h) (Or.inl ⟨by rfl, ?_⟩) ?_ ?_
 rotate_left
 ·intro w'
  go_simp
  try with_reducible rfl
 rotate_left
 ·simp only [Act.put, sq1, sq2, sq3, i64_w, i32_w]
  rfl
 refine pure_ (i := 3) (N := some 46) (v := ?_) (a' := ?_) #[true, true, true, true, false, false, false, false, false, false, false, false] rfl rfl (by kernel_rfl) (fun _ _ _ h => h) (Or.inl ⟨by rfl, ?_⟩) ?_ ?_
 rotate_left
 ·intro w'
  go_simp
  try with_reducible rfl
 rotate_left
 ·simp only [Act.put, sq1, sq2, sq3, i64_w, i32_w]
  rfl
 refine take_ (i := 4) (N := some 47) (v := ?_) (a' := ?_) #[true, true, true, true, true, false, false, false, false, false, false, false] rfl rfl (by kernel_rfl) (fun _ _ _ h => h) (Or.inl ⟨by rfl, ?_⟩) hHeld ?_ ?_
 rotate_left
 ·intro w' hS
  obtain ⟨hS, _⟩ := hS
  go_simp
  try with_reducible rfl
 rotate_left
 ·simp only [Act.put, sq1, sq2, sq3, i64_w, i32_w]
  rfl
 refine take_ (i := 5) (N := some 48) (v := _) (a' := ?_) #[true, true, true, true, true, true, false, false, false, false, false, false] rfl rfl (by kernel_rfl) (fun _ _ _ h => h) (Or.inl ⟨by rfl, fun w' hS => exec_load_row rfl rfl (hS.2) Try.underlying32 rfl (by kernel_rfl)⟩) hHeld ?_ ?_
 rotate_left
 ·simp only [Act.put, sq1, sq2, sq3, i64_w, i32_w]
  rfl
 refine one_ (i := 6) (N := some 49) #[true, true, true, true, true, true, true, false, false, false, false, false] rfl rfl (by kernel_rfl) (by decide) (fun K hK => ?_)
 go_simp
 refine (cloneTx_is t (txC_of HF.out) (smT_of HM.out)).mono ?_
 rintro e w7 ⟨v2, v3, v4, v5, rfl, h2, h3, h4, h5, hb⟩
 have HB := Lib.hid hb
 have HNE := Lib.hid (fk_new (B := B) h2 h3 h4 h5); have HNF := Lib.hid (fl_new (lo' := W.heap.size) h2 h3 h4 h5 HW.out.size)
 obtain ⟨N2, N2c, rfl⟩ := Kd.R_slice h2
 obtain ⟨N3, N3c, rfl⟩ := Kd.R_slice h3
 obtain ⟨N4, N4c, rfl⟩ := Kd.R_slice h4
 obtain ⟨N5, N5c, rfl⟩ := Kd.R_slice h5
 have HY7 := Lib.hid ((hb.block g (blk_lt HY.out)).trans HY.out); have HT7 := Lib.hid (HT.out.below hb); have HX7 := Lib.hid ((hb.block _ (blk_lt HX.out)).trans HX.out); have HW7 := Lib.hid (HW.out.then_below hb); have HM7 := Lib.hid (HMP.out.below hb)
 clear hb h2 h3 h4 h5 HF HY HT HX HW HMP
 refine hK.out _ _ ⟨(blk_cell HY7.out 2).trans rfl, HX7.out⟩ (fun hHeld => ?_)
 clear hK K
 refine one_ (i := 7) (N := some 50) #[true, true, true, true, true, true, true, true, false, false, false, false] rfl rfl (by kernel_rfl) (by decide) (fun K hK => ?_)
 refine value_ (w1 := ?_) (v := ?_) (by rfl) rfl ?_ ?_
 rotate_left 2
 ·go_simp
  constructor <;> rfl
 have HB8 := Lib.hid ((Below.refl w7.heap.size w7).alloc (Nat.le_refl _) (.cells #[.int .i64 t.f0, .int .i64 t.f1, .slice N2 t.f2.length N2c, .slice N3 t.f3.length N3c, .slice N4 t.f4.length N4c, .slice N5 t.f5.length N5c] 32))
 refine hK.out _ _ ⟨(blk_cell ((HB8.out.block g (blk_lt HY7.out)).trans HY7.out) 2).trans rfl, (HB8.out.block _ (blk_lt HX7.out)).trans HX7.out⟩ (fun hHeld => ?_)
 clear hK K
 refine norm_ (a' := ?_) ?_ ?_
 rotate_left
 ·show Act.put _ (some 50) _ = _
  simp only [Act.put, sq1, sq2, sq3, i64_w, i32_w]
  rfl
 have HY8 := Lib.hid ((HB8.out.block g (blk_lt HY7.out)).trans HY7.out); have HT8 := Lib.hid (HT7.out.below HB8.out); have HX8 := Lib.hid ((HB8.out.block _ (blk_lt HX7.out)).trans HX7.out); have HW8 := Lib.hid (HW7.out.then_below HB8.out); have HM8 := Lib.hid (HM7.out.below HB8.out)
 have HS8 := Lib.hid (src_one (B := B) (e := 32) HNE.out)
 obtain ⟨ab, hab⟩ : ∃ ab, w7.heap.size = ab := ⟨_, rfl⟩
 obtain ⟨w8, hw8⟩ : ∃ V, w7.alloc (.cells #[.int .i64 t.f0, .int .i64 t.f1, .slice N2 t.f2.length N2c, .slice N3 t.f3.length N3c, .slice N4 t.f4.length N4c, .slice N5 t.f5.length N5c] 32) = V := ⟨_, rfl⟩
 have HF8 := Lib.hid (Fl_below HNF.out HB8.out)
 have HS8' := Lib.hid (show Src B (w7.alloc (.cells #[.int .i64 t.f0, .int .i64 t.f1, .slice N2 t.f2.length N2c, .slice N3 t.f3.length N3c, .slice N4 t.f4.length N4c, .slice N5 t.f5.length N5c] 32)) _ _ _ from HS8.out)
 rw [hw8] at HY8 HT8 HX8 HW8 HM8 HS8' HF8 hHeld ⊢
 rw [hab] at HS8' ⊢
 clear hw8 hab HY7 HT7 HX7 HW7 HM7 HS8 HB8 HNE HB
 refine one_ (i := 8) (N := some 51) #[true, true, true, true, true, true, true, true, true, false, false, false] rfl rfl (by kernel_rfl) (by decide) (fun K hK => ?_)
 have HZ8 := Lib.hid (blk_lt HY8.out)
 refine fr_append_step (by rfl) (.tmp 47) (.tmp 50) rfl rfl (by rw [HS0.out.1, HS0.out.2.1, HS0.out.2.2]; rfl) rfl HS8'.out.1 HF8.out HW8.out.size ?_
 intro A' c' w9 hlc ho hg_ hat
 have HK9 := Lib.hid (KeepS.of_grown (S := sqS g mp A) hg_ (fun i hi => by cases hi))
 have HA9 := Lib.hid (show NewRow w8 A A' from fun a' ha => .inr (hat a' ha))
 have HT9 := Lib.hid (ho.tr (B := B) (show B ≤ W.heap.size by have := HO5.out.2.1; have := HLT.out g (.inl rfl); omega)); have HF9 := Lib.hid ho
 have HY9 := Lib.hid ((hg_.block g (blk_lt HY8.out) (fun e => by cases e)).trans HY8.out)
 have HX9 := Lib.hid ((hg_.block W.heap.size (blk_lt HX8.out) (fun e => by cases e)).trans HX8.out)
 have HM9 := Lib.hid (HM8.out.move (hg_.block mp HM8.out.lt (fun e => by cases e)))
 have HW9 := Lib.hid (HW8.out.trans HK9.out)
 have HA := Lib.hid (HA9.out.up HW8.out.size)
 have HOG := Lib.hid (show ∀ a', A' = some a' → a'.block ≠ g by
  intro a' ha
  rcases HA9.out a' ha with ⟨a, h1, h2⟩ | h
  ·rw [← h2]; exact (HO5.out.1 a h1).1
  ·have := HZ8.out; omega)
 clear ho hg_ hat hlc HT8 HY8 HX8 HM8 HW8 HK9 HA9 HS8'
 refine hK.out _ _ ⟨(blk_cell HY9.out 2).trans rfl, HX9.out⟩ (fun hHeld => ?_)
 clear hK K
 refine norm_ (a' := ?_) ?_ ?_
 rotate_left
 ·show Act.put _ (some 51) _ = _
  simp only [Act.put, sq1, sq2, sq3, i64_w, i32_w]
  rfl
 refine pure_ (i := 9) (N := some 52) (v := ?_) (a' := ?_) #[true, true, true, true, true, true, true, true, true, true, false, false] rfl rfl (by kernel_rfl) (fun _ _ _ h => h) (Or.inl ⟨by rfl, ?_⟩) ?_ ?_
 rotate_left
 ·intro w'
  go_simp
  try with_reducible rfl
 rotate_left
 ·simp only [Act.put, sq1, sq2, sq3, i64_w, i32_w]
  rfl
 refine pure_ (i := 10) (N := some 53) (v := ?_) (a' := ?_) #[true, true, true, true, true, true, true, true, true, true, true, false] rfl rfl (by kernel_rfl) (fun _ _ _ h => h) (Or.inl ⟨by rfl, ?_⟩) ?_ ?_
 rotate_left
 ·intro w'
  go_simp
  try with_reducible rfl
 rotate_left
 ·simp only [Act.put, sq1, sq2, sq3, i64_w, i32_w]
  rfl
 have q2 : w9.cell? ⟨g, 2, none⟩ = some (.slice A s.l.length c) := (blk_cell HY9.out 2).trans rfl
 have z2 : w9.frozen? ⟨g, 2, none⟩ = false := blk_frozen HY9.out 2
 refine last_ (i := 11) (N := none) #[true, true, true, true, true, true, true, true, true, true, true, true] rfl rfl (by kernel_rfl) (by decide) (fun K hK => ?_)
 refine skip_ (w1 := ?_) (by rfl) rfl ?_ ?_
 rotate_left
 ·go_simp
  rfl
 refine hK.out _ _ ?_
 clear hK K
 refine done_ (by kernel_rfl) ?_
 go_wp2_with fail
 go_ret
 have hng : ∀ i, i = g → ¬ Inn B w9 i := fun i e => by subst e; exact not_inn HO5.out.2.1 HY9.out sq_not
 have hkg := (KeepS.refl (fun i => i = g) w9).set (p := ⟨g, 2, none⟩) (.inl rfl) (.slice A' 1 c')
 refine ⟨A', c', rfl, ?_, HW9.out.set (p := ⟨g, 2, none⟩) (.inl (.inl rfl)) _, HA.out, HF9.out.keep hkg (fun i e => by have := HLT.out g (.inl rfl); omega)⟩
 refine ⟨blk_put HY9.out 2 _ rfl, ?_, HT9.out.keep hkg hng (fun k hk e => by obtain ⟨a, ha, e2⟩ := own_iff.1 hk; exact HOG.out a ha (e2.trans e)), ?_, HO5.out.2.1, HO5.out.2.2.1⟩
 ·have h9 := HM9.out.move (w' := w9.setCell ⟨g, 2, none⟩ (.slice A' 1 c')) (Below.heap_setCell w9 ⟨g, 2, none⟩ _ mp (fun e => HO5.out.2.2.2.1 e.symm))
  rw [HNO.out, HS0.out.1] at h9
  show IsM _ _ _ _ _ _ (mapQ ([] ++ [t])) 1
  rw [mapQ_snoc]
  exact h9
 ·have h10 := HO5.out.2.2.2.2.take HO.out
  rw [HR.out] at h10
  dsimp only at h10
  rw [HS0.out.1] at h10
  exact h10
def RtakeO (B : Nat) (W : World) (q : Nat) (s : SqS) (A : Option Addr) (t : TxD) (e : Ending) (w' : World) : Prop :=
 ∃ A' c', e = .returned (.int .i64 0) ∧ IsRq B w' q { s with l := [t] } A' c' ∧ KeepS (sqS q q A) W w' ∧ NewRow W A A' ∧ Fresh1 W.heap.size w' A' c' t
set_option maxHeartbeats 8000000 in
theorem rtake_own {B : Nat} {W : World} {q : Nat} {s : SqS} {A : Option Addr} {c : Nat} (h : IsRq B W q s A c) (hs0 : s.l = [] ∧ A = none ∧ c = 0) {t : TxD} {A2 A3 A4 A5 : Option Addr} {c2 c3 c4 c5 : Nat} (hF : Kd.FK G.k32 W (Inn B W) t [.int .i64 t.f0, .int .i64 t.f1, .slice A2 t.f2.length c2, .slice A3 t.f3.length c3, .slice A4 t.f4.length c4, .slice A5 t.f5.length c5]) (ho : okT t = true) (hm : mayT t = true) :
  Calls Try.prog 18 #[.pointer (some ⟨q, 0, none⟩), .agg #[.int .i64 t.f0, .int .i64 t.f1, .slice A2 t.f2.length c2, .slice A3 t.f3.length c3, .slice A4 t.f4.length c4, .slice A5 t.f5.length c5]] W fun e w' => RtakeO B W q s A t e w' := by
 obtain ⟨hx, hb⟩ : (W.alloc (.cells #[.int .i64 t.f0, .int .i64 t.f1, .slice A2 t.f2.length c2, .slice A3 t.f3.length c3, .slice A4 t.f4.length c4, .slice A5 t.f5.length c5] 32)).heap[W.heap.size]? = some (.cells #[.int .i64 t.f0, .int .i64 t.f1, .slice A2 t.f2.length c2, .slice A3 t.f3.length c3, .slice A4 t.f4.length c4, .slice A5 t.f5.length c5] 32) ∧ Below W.heap.size W (W.alloc (.cells #[.int .i64 t.f0, .int .i64 t.f1, .slice A2 t.f2.length c2, .slice A3 t.f3.length c3, .slice A4 t.f4.length c4, .slice A5 t.f5.length c5] 32)) := ⟨heap_alloc_new W _, (Below.refl _ W).alloc (Nat.le_refl _) _⟩
 obtain ⟨w0, hw⟩ : ∃ V, W.alloc (.cells #[.int .i64 t.f0, .int .i64 t.f1, .slice A2 t.f2.length c2, .slice A3 t.f3.length c3, .slice A4 t.f4.length c4, .slice A5 t.f5.length c5] 32) = V := ⟨_, rfl⟩
 rw [hw] at hx hb
 have HX0 := Lib.hid hx; have HB0 := Lib.hid hb; have HF0 := Lib.hid (FK_calm hF (.of_below hb)); have HQ := Lib.hid h
 have HO := Lib.hid ho; have HS0 := Lib.hid hs0
 clear hs0
 have HW := Lib.hid hw
 have HLT := Lib.hid (show (∀ k, sqS q q A k → k < W.heap.size) ∧ B ≤ W.heap.size from ⟨h.lt, Nat.le_trans h.bg (Nat.le_of_lt h.glt)⟩)
 have HM := Lib.hid hm
 have HE := Lib.hid (show okE 1 0 0 [t] = true ∧ (entF 1 0 0 [t]).2 = 0 from ⟨by unfold okE; rw [List.all_cons, ho]; rfl, by rw [one_err ho, if_pos hm]⟩)
 clear hm
 clear h hF hx hb ho hw
 go_enter Try.func18, Try.ntmps18
 go_upto_region 1 with fail
 rw [HW.out]
 refine wp_region_list ?_
 refine wpList_load_row rfl 32 (.tmp 3) rfl W.heap.size rfl 32 #[.int .i64 t.f0, .int .i64 t.f1, .slice A2 t.f2.length c2, .slice A3 t.f3.length c3, .slice A4 t.f4.length c4, .slice A5 t.f5.length c5] (0, 0) _ HX0.out Try.underlying32 rfl (by kernel_rfl) ?_
 go_wp2_with fail
 have hb1 := (Below.refl w0.heap.size w0).alloc (Nat.le_refl _) (.cells #[.int .i64 t.f0, .int .i64 t.f1, .slice A2 t.f2.length c2, .slice A3 t.f3.length c3, .slice A4 t.f4.length c4, .slice A5 t.f5.length c5] 32)
 have h1 : Kd.C G.k32 (w0.alloc (.cells #[.int .i64 t.f0, .int .i64 t.f1, .slice A2 t.f2.length c2, .slice A3 t.f3.length c3, .slice A4 t.f4.length c4, .slice A5 t.f5.length c5] 32)) (some ⟨w0.heap.size, 0, none⟩) 1 [t] := C_tx1 (txC_of HF0.out) _
 have HB1 := Lib.hid (HB0.out.trans (hb1.mono HB0.out.size)); have HC1 := Lib.hid h1
 have HX1 := Lib.hid ((hb1.block _ (blk_lt HX0.out)).trans HX0.out); have HF1 := Lib.hid (FK_calm HF0.out (.of_below hb1))
 obtain ⟨ob, hob⟩ : ∃ ob, w0.heap.size = ob := ⟨_, rfl⟩
 obtain ⟨w1, hw1⟩ : ∃ V, w0.alloc (.cells #[.int .i64 t.f0, .int .i64 t.f1, .slice A2 t.f2.length c2, .slice A3 t.f3.length c3, .slice A4 t.f4.length c4, .slice A5 t.f5.length c5] 32) = V := ⟨_, rfl⟩
 rw [hw1] at HB1 HC1 HX1 HF1 ⊢
 rw [hob] at HC1 ⊢
 have h4 := refEntry_is (w := w1) ⟨1, 0, 0, [t]⟩ (E := some ⟨ob, 0, none⟩) (ce := 1) HC1.out (Nat.le_refl 1) HE.out.1
 dsimp only at h4
 rw [HE.out.2] at h4
 clear h1 hb1 hw1 hob
 refine h4.mono ?_
 rintro e w2 ⟨v, rfl, hv, hb⟩
 have HB2 := Lib.hid (HB1.out.trans (hb.mono HB1.out.size)); have HC2 := Lib.hid (Kd.C_below HC1.out hb); have HX2 := Lib.hid ((hb.block _ (blk_lt HX1.out)).trans HX1.out); have HF2 := Lib.hid (FK_calm HF1.out (.of_below hb))
 clear h4 hv hb HB1 HC1 HX1 HF1 HX0 HB0 HF0 HW
 have d0 : w2.cell? ⟨W.heap.size, 0, none⟩ = some (.int .i64 t.f0) := (blk_cell HX2.out 0).trans rfl
 have d1 : w2.cell? ⟨W.heap.size, 1, none⟩ = some (.int .i64 t.f1) := (blk_cell HX2.out 1).trans rfl
 have HQ2 := Lib.hid (HQ.out.below HB2.out)
 have e1 : w2.cell? ⟨q, 1, none⟩ = some (.slice A s.l.length c) := (blk_cell HQ2.out.y 1).trans rfl
 have HLL := Lib.hid (show s.l.length ≤ 64 from HQ2.out.o.m)
 go_wp2_with fail
 go_loopw [8] (fun i wr => ∃ k : Nat, i = .int .i64 (k : Int) ∧ k ≤ s.l.length ∧ Aside0 (Below w2.heap.size w2 wr ∧ ∀ (j : Nat) (x : TxD), j < k → s.l[j]? = some x → (x.f0, x.f1) ≠ (t.f0, t.f1))) (fun i _ => s.l.length - (intOf i).toNat)
 case atStart => exact ⟨0, rfl, Nat.zero_le _, ⟨Below.refl _ _, fun j _ h => absurd h (Nat.not_lt_zero j)⟩⟩
 case round =>
  obtain ⟨k, rfl, hk, HRR⟩ := hrel
  have HBr := Lib.hid (HB2.out.trans (HRR.out.1.mono HB2.out.size)); have HQr := Lib.hid (HQ2.out.below HRR.out.1); have HXr := Lib.hid ((HRR.out.1.block _ (blk_lt HX2.out)).trans HX2.out)
  have HCr := Lib.hid (Kd.C_below HC2.out HRR.out.1); have HFr := Lib.hid (FK_calm HF2.out (.of_below HRR.out.1))
  have hk64 : k ≤ 64 := by have := HLL.out; omega
  clear d0 d1 e1
  have d0 : wr.cell? ⟨W.heap.size, 0, none⟩ = some (.int .i64 t.f0) := (blk_cell HXr.out 0).trans rfl
  have d1 : wr.cell? ⟨W.heap.size, 1, none⟩ = some (.int .i64 t.f1) := (blk_cell HXr.out 1).trans rfl
  have e1 : wr.cell? ⟨q, 1, none⟩ = some (.slice A s.l.length c) := (blk_cell HQr.out.y 1).trans rfl
  by_cases hlt : k < s.l.length
  ·exact absurd hlt (by rw [HS0.out.1]; simp)
  ·have q1 : decide (k < s.l.length) = false := decide_eq_false hlt
   have HNW := Lib.hid (show waitsB s.l (keyTx t) = false by
    unfold waitsB
    rw [List.any_eq_false]
    intro x hx
    obtain ⟨j, hj⟩ := List.getElem?_of_mem hx
    have h9 := HRR.out.2 j x (by have := (List.getElem?_eq_some_iff.1 hj).1; omega) hj
    unfold keyTx
    rw [beq_iff_eq]
    exact h9)
   clear hlt
   by_cases hf : 64 ≤ s.l.length
   ·exact absurd hf (by rw [HS0.out.1]; simp)
   ·have HR := Lib.hid (show qTake s t = ({ s with l := s.l ++ [t] }, 0) by unfold qTake; rw [if_neg (by rw [HM.out]; simp), if_neg (by rw [HNW.out]; simp), if_neg hf])
    have HL := Lib.hid (show s.l.length < 64 by omega)
    have q2 : decide (64 ≤ s.l.length) = false := decide_eq_false hf
    have q3 : decide (64 ≤ (s.l.length : Int)) = false := decide_eq_false (by omega)
    clear hf
    go_wp2_with fail
    refine (refCloneEn_is (w := wr) ⟨1, 0, 0, [t]⟩ (A := some ⟨ob, 0, none⟩) (c := 1) (Nat.le_refl 1) HCr.out ⟨(by decide : 1 ≤ 1048576), fun u hu => by rw [List.mem_singleton.1 hu]; exact smT_of HM.out⟩).mono ?_
    rintro e w3 ⟨v3, rfl, hS, hb⟩
    obtain ⟨E, ce, rfl⟩ := Kd.S_slice hS
    obtain ⟨ad, N2, n2, N3, n3, N4, n4, N5, n5, hEad, hAt, hFK⟩ := fl_row (lo' := W.heap.size) (Kd.S_R hS) HBr.out.size
    have HEAD := Lib.hid hEad
    clear hEad
    have HB3 := Lib.hid (HBr.out.trans (hb.mono HBr.out.size)); have HQ3 := Lib.hid (HQr.out.below hb)
    have HEN := Lib.hid (show ∀ a, E = some a → wr.heap.size ≤ a.block from fun a ha => Kd.S_base hS _ (own_iff.2 ⟨a, ha, rfl⟩))
    clear hS hb d0 d1 e1 HBr HQr HXr HCr HFr q1 q2 q3
    go_upto_region 13 with fail
    have HB4 := Lib.hid ((Below.refl w3.heap.size w3).alloc (Nat.le_refl _) (.cells #[.int .i64 1, .int .i64 0, .int .i64 0, .slice E 1 ce] 36))
    have HX4 := Lib.hid (heap_alloc_new w3 (.cells #[.int .i64 1, .int .i64 0, .int .i64 0, .slice E 1 ce] 36))
    obtain ⟨xb, hxb⟩ : ∃ xb, w3.heap.size = xb := ⟨_, rfl⟩
    have HXB := Lib.hid (show W.heap.size ≤ xb by have := HB3.out.size; omega)
    obtain ⟨w4, hw4⟩ : ∃ V, w3.alloc (.cells #[.int .i64 1, .int .i64 0, .int .i64 0, .slice E 1 ce] 36) = V := ⟨_, rfl⟩
    rw [hw4] at HB4 HX4 ⊢
    rw [hxb] at HX4 ⊢
    replace hAt := (hAt.below HB4.out).below (Below.refl _ w4).drew; replace hFK := Fl_below (Fl_below hFK HB4.out) (Below.refl _ w4).drew; have HQ4 := Lib.hid ((HQ3.out.below HB4.out).below (Below.refl _ w4).drew); have HBB4 := Lib.hid ((HB3.out.trans (HB4.out.mono HB3.out.size)).drew)
    have HX5 := Lib.hid (show w4.drew.heap[xb]? = _ from HX4.out)
    clear hw4 hxb HB3 HQ3 HB4
    have hEad := HEAD.out
    have HX6 := Lib.hid (show w4.drew.heap[xb]? = some (.cells #[.int .i64 1, .int .i64 0, .int .i64 0, .slice (some ad) 1 ce] 36) by rw [← hEad]; exact HX5.out)
    have HADB := Lib.hid (show W.heap.size ≤ ad.block by have h1 := HEN.out ad hEad; have h2 := HB2.out.size; have h3 := HRR.out.1.size; omega)
    have HAT := Lib.hid hAt; have HFK := Lib.hid hFK
    clear hAt hFK hEad HX5 HX4
    refine start_ (n := 14) (S := fun w' => w'.cell? ⟨q, 1, none⟩ = some (.slice A s.l.length c) ∧ w'.cell? ⟨xb, 3, none⟩ = some (.slice (some ad) 1 ce) ∧ TxAt w' ad t N2 n2 N3 n3 N4 n4 N5 n5) (ds := [13]) #[false, false, false, false, false, false, false, false, false, false, false, false, false, false] (by kernel_rfl) rfl rfl ⟨(blk_cell HQ4.out.y 1).trans rfl, (blk_cell HX6.out 3).trans rfl, HAT.out⟩ (fun hHeld => ?_)
    obtain ⟨wa, hwa⟩ : ∃ wa, w4.drew = wa := ⟨_, rfl⟩
    rw [hwa] at HQ4 HBB4 HX6 HAT HFK hHeld ⊢
    clear hwa
    refine pure_ (i := 0) (N := some 62) (v := ?_) (a' := ?_) #[true, false, false, false, false, false, false, false, false, false, false, false, false, false] rfl rfl (by kernel_rfl) (fun _ _ _ h => h) (Or.inl ⟨by rfl, ?_⟩) ?_ ?_
    rotate_left
    ·intro w'
     go_simp
     try with_reducible rfl
    rotate_left
    ·simp only [Act.put, sq1, sq2, sq3, i64_w, i32_w]
     rfl
    refine pure_ (i := 1) (N := some 63) (v := ?_) (a' := ?_) #[true, true, false, false, false, false, false, false, false, false, false, false, false, false] rfl rfl (by kernel_rfl) (fun _ _ _ h => h) (Or.inl ⟨by rfl, ?_⟩) ?_ ?_
    rotate_left
    ·intro w'
     go_simp
     try with_reducible rfl
    rotate_left
    ·simp only [Act.put, sq1, sq2, sq3, i64_w, i32_w]
     rfl
    refine pure_ (i := 2) (N := some 64) (v := ?_) (a' := ?_) #[true, true, true, false, false, false, false, false, false, false, false, false, false, false] rfl rfl (by kernel_rfl) (fun _ _ _ h => h) (Or.inl ⟨by rfl, ?_⟩) ?_ ?_
    rotate_left
    ·intro w'
     go_simp
     try with_reducible rfl
    rotate_left
    ·simp only [Act.put, sq1, sq2, sq3, i64_w, i32_w]
     rfl
    refine pure_ (i := 3) (N := some 65) (v := ?_) (a' := ?_) #[true, true, true, true, false, false, false, false, false, false, false, false, false, false] rfl rfl (by kernel_rfl) (fun _ _ _ h => h) (Or.inl ⟨by rfl, ?_⟩) ?_ ?_
    rotate_left
    ·intro w'
     go_simp
     try with_reducible rfl
    rotate_left
    ·simp only [Act.put, sq1, sq2, sq3, i64_w, i32_w]
     rfl
    refine take_ (i := 4) (N := some 66) (v := ?_) (a' := ?_) #[true, true, true, true, true, false, false, false, false, false, false, false, false, false] rfl rfl (by kernel_rfl) (fun _ _ _ h => h) (Or.inl ⟨by rfl, ?_⟩) hHeld ?_ ?_
    rotate_left
    ·intro w' hS
     obtain ⟨hS, _⟩ := hS
     go_simp
     try with_reducible rfl
    rotate_left
    ·simp only [Act.put, sq1, sq2, sq3, i64_w, i32_w]
     rfl
    refine pure_ (i := 5) (N := some 67) (v := ?_) (a' := ?_) #[true, true, true, true, true, true, false, false, false, false, false, false, false, false] rfl rfl (by kernel_rfl) (fun _ _ _ h => h) (Or.inl ⟨by rfl, ?_⟩) ?_ ?_
    rotate_left
    ·intro w'
     go_simp
     try with_reducible rfl
    rotate_left
    ·simp only [Act.put, sq1, sq2, sq3, i64_w, i32_w]
     rfl
    refine take_ (i := 6) (N := some 68) (v := ?_) (a' := ?_) #[true, true, true, true, true, true, true, false, false, false, false, false, false, false] rfl rfl (by kernel_rfl) (fun _ _ _ h => h) (Or.inl ⟨by rfl, ?_⟩) hHeld ?_ ?_
    rotate_left
    ·intro w' hS
     obtain ⟨_, hS, _⟩ := hS
     go_simp
     try with_reducible rfl
    rotate_left
    ·simp only [Act.put, sq1, sq2, sq3, i64_w, i32_w]
     rfl
    refine pure_ (i := 7) (N := some 69) (v := ?_) (a' := ?_) #[true, true, true, true, true, true, true, true, false, false, false, false, false, false] rfl rfl (by kernel_rfl) (fun _ _ _ h => h) (Or.inl ⟨by rfl, ?_⟩) ?_ ?_
    rotate_left
    ·intro w'
     go_simp
     try with_reducible rfl
    rotate_left
    ·simp only [Act.put, sq1, sq2, sq3, i64_w, i32_w]
     rfl
    refine take_ (i := 8) (N := some 70) (v := ?_) (a' := ?_) #[true, true, true, true, true, true, true, true, true, false, false, false, false, false] rfl rfl (by kernel_rfl) (fun _ _ _ h => h) (Or.inl ⟨by rfl, ?_⟩) hHeld ?_ ?_
    rotate_left
    ·intro w' hS
     obtain ⟨_, _, ⟨x0, x1, x2, x3, x4, x5⟩⟩ := hS
     go_simp
     try with_reducible rfl
    rotate_left
    ·simp only [Act.put, sq1, sq2, sq3, i64_w, i32_w]
     rfl
    refine one_ (i := 9) (N := some 71) #[true, true, true, true, true, true, true, true, true, true, false, false, false, false] rfl rfl (by kernel_rfl) (by decide) (fun K hK => ?_)
    refine value_ (w1 := ?_) (v := ?_) (by rfl) rfl ?_ ?_
    rotate_left 2
    ·go_simp
     constructor <;> rfl
    have HB8 := Lib.hid ((Below.refl wa.heap.size wa).alloc (Nat.le_refl _) (.cells #[.int .i64 t.f0, .int .i64 t.f1, .slice N2 t.f2.length n2, .slice N3 t.f3.length n3, .slice N4 t.f4.length n4, .slice N5 t.f5.length n5] 32))
    have HA8 := Lib.hid (HAT.out.below HB8.out)
    refine hK.out _ _ ⟨(blk_cell (HQ4.out.below HB8.out).y 1).trans rfl, (blk_cell ((HB8.out.block xb (blk_lt HX6.out)).trans HX6.out) 3).trans rfl, HA8.out⟩ (fun hHeld => ?_)
    clear hK K
    refine norm_ (a' := ?_) ?_ ?_
    rotate_left
    ·show Act.put _ (some 71) _ = _
     simp only [Act.put, sq1, sq2, sq3, i64_w, i32_w]
     rfl
    have HQ8 := Lib.hid (HQ4.out.below HB8.out); have HX8 := Lib.hid ((HB8.out.block xb (blk_lt HX6.out)).trans HX6.out); have HBB8 := Lib.hid (HBB4.out.trans (HB8.out.mono HBB4.out.size))
    have HS8 := Lib.hid (show Src B (wa.alloc (.cells #[.int .i64 t.f0, .int .i64 t.f1, .slice N2 t.f2.length n2, .slice N3 t.f3.length n3, .slice N4 t.f4.length n4, .slice N5 t.f5.length n5] 32)) _ _ _ from src_one (B := B) (e := 32) (Fl_inn HFK.out)); have HF8 := Lib.hid (Fl_below HFK.out HB8.out)
    have HA9 := Lib.hid (show ∀ a, A = some a → a.block < W.heap.size from fun a ha => HLT.out.1 _ (.inr (.inr ⟨a, ha, rfl⟩)))
    obtain ⟨ab, hab⟩ : ∃ ab, wa.heap.size = ab := ⟨_, rfl⟩
    obtain ⟨w8, hw8⟩ : ∃ V, wa.alloc (.cells #[.int .i64 t.f0, .int .i64 t.f1, .slice N2 t.f2.length n2, .slice N3 t.f3.length n3, .slice N4 t.f4.length n4, .slice N5 t.f5.length n5] 32) = V := ⟨_, rfl⟩
    rw [hw8] at HQ8 HX8 HBB8 HS8 HF8 HA8 hHeld ⊢
    rw [hab] at HS8 ⊢
    clear hw8 hab HQ4 HBB4 HX6 HAT HB8 HFK
    refine one_ (i := 10) (N := some 72) #[true, true, true, true, true, true, true, true, true, true, true, false, false, false] rfl rfl (by kernel_rfl) (by decide) (fun K hK => ?_)
    refine fr_append_step (by rfl) (.tmp 66) (.tmp 71) rfl rfl (by rw [HS0.out.1, HS0.out.2.1, HS0.out.2.2]; rfl) rfl HS8.out.1 HF8.out HBB8.out.size ?_
    intro A' c' w9 hlc hn hg_ hat
    have HK9 := Lib.hid (KeepS.of_grown (S := sqS q q A) hg_ (fun i hi => by cases hi))
    have HN9 := Lib.hid (show NewRow w8 A A' from fun a' ha => .inr (hat a' ha))
    have HT9 := Lib.hid (hn.tr (B := B) HLT.out.2); have HF9 := Lib.hid hn
    have HY9 := Lib.hid ((hg_.block q HQ8.out.glt (fun e => by cases e)).trans HQ8.out.y)
    have HX9 := Lib.hid ((hg_.block xb (blk_lt HX8.out) (fun e => by cases e)).trans HX8.out)
    have HAT9 := Lib.hid (HA8.out.move (hg_.block ad.block (World.block_lt_of_cell? _ _ HA8.out.e0) (fun e => by cases e)))
    have HW9 := Lib.hid ((KeepS.of_below (sqS q q A) HBB8.out).trans HK9.out)
    have HA := Lib.hid (HN9.out.up HBB8.out.size)
    have HOG := Lib.hid (show ∀ a', A' = some a' → a'.block ≠ q by
     intro a' ha
     rcases HN9.out a' ha with ⟨a, h1, h2⟩ | h
     ·rw [← h2]; exact HQ8.out.own_ne h1
     ·have := HQ8.out.glt; omega)
    clear hn hg_ hat HX8 HBB8 HK9 HN9 HS8 HA8
    refine hK.out _ _ ⟨(blk_cell HY9.out 1).trans rfl, (blk_cell HX9.out 3).trans rfl, HAT9.out⟩ (fun hHeld => ?_)
    clear hK K
    refine norm_ (a' := ?_) ?_ ?_
    rotate_left
    ·show Act.put _ (some 72) _ = _
     simp only [Act.put, sq1, sq2, sq3, i64_w, i32_w]
     rfl
    refine pure_ (i := 11) (N := some 73) (v := ?_) (a' := ?_) #[true, true, true, true, true, true, true, true, true, true, true, true, false, false] rfl rfl (by kernel_rfl) (fun _ _ _ h => h) (Or.inl ⟨by rfl, ?_⟩) ?_ ?_
    rotate_left
    ·intro w'
     go_simp
     try with_reducible rfl
    rotate_left
    ·simp only [Act.put, sq1, sq2, sq3, i64_w, i32_w]
     rfl
    refine pure_ (i := 12) (N := some 74) (v := ?_) (a' := ?_) #[true, true, true, true, true, true, true, true, true, true, true, true, true, false] rfl rfl (by kernel_rfl) (fun _ _ _ h => h) (Or.inl ⟨by rfl, ?_⟩) ?_ ?_
    rotate_left
    ·intro w'
     go_simp
     try with_reducible rfl
    rotate_left
    ·simp only [Act.put, sq1, sq2, sq3, i64_w, i32_w]
     rfl
    have q2 : w9.cell? ⟨q, 1, none⟩ = some (.slice A s.l.length c) := (blk_cell HY9.out 1).trans rfl
    have z2 : w9.frozen? ⟨q, 1, none⟩ = false := blk_frozen HY9.out 1
    refine last_ (i := 13) (N := none) #[true, true, true, true, true, true, true, true, true, true, true, true, true, true] rfl rfl (by kernel_rfl) (by decide) (fun K hK => ?_)
    refine skip_ (w1 := ?_) (by rfl) rfl ?_ ?_
    rotate_left
    ·go_simp
     rfl
    refine hK.out _ _ ?_
    clear hK K
    refine done_ (by kernel_rfl) ?_
    go_wp2_with fail
    go_ret
    have hk := (KeepS.refl (fun i => i = q) w9).set (p := ⟨q, 1, none⟩) (.inl rfl) (.slice A' 1 c')
    refine ⟨A', c', rfl, ?_, HW9.out.set (p := ⟨q, 1, none⟩) (.inl (.inl rfl)) _, HA.out, HF9.out.keep hk (fun i e => by have := HLT.out.1 q (.inl rfl); omega)⟩
    refine ⟨blk_put HY9.out 1 _ rfl, HT9.out.keep hk (fun i e => by subst e; exact not_inn HQ8.out.bg HY9.out rq_not) (fun k hk' e => by obtain ⟨a, ha, e2⟩ := own_iff.1 hk'; exact HOG.out a ha (e2.trans e)), ?_, HQ8.out.bg⟩
    have h10 := HQ8.out.o.take HO.out
    rw [HR.out] at h10
    dsimp only at h10
    rw [HS0.out.1] at h10
    exact h10
end Go.Proofs.Ytgmlpmdfkaadhaa.M
end

section
/- An operation of a script, read. -/
namespace Go.Proofs.Ytgmlpmdfkaadhaa.M
open Go.RowKit Go.Proofs.YtgmlpmdfkaadhaaW.PrintWords Go.Proofs.YtgmlpmdfkaadhaaW.PrintLast Go.Proofs.YtgmlpmdfkaadhaaW.PrintMore Go.Proofs.Ytgmlpmdfkaadhaa.G
structure OpQ where
 k : Int
 t : TxD
end Go.Proofs.Ytgmlpmdfkaadhaa.M
end

section
/- The reference's takes, Flush, Tick. -/
attribute [local irreducible] Go.wpStill
namespace Go.Proofs.Ytgmlpmdfkaadhaa.M
open Go.RowKit Go.Proofs.YtgmlpmdfkaadhaaW.PrintWords Go.Proofs.YtgmlpmdfkaadhaaW.PrintLast Go.Proofs.YtgmlpmdfkaadhaaW.PrintMore Go.Proofs.Ytgmlpmdfkaadhaa.G
theorem TR.src' {B : Nat} {W : World} {A : Option Addr} {n c : Nat} {l : List TxD} (h : TR B W (.slice A n c) l) (hp : 0 < l.length) : ∃ a news, A = some a ∧ Src B W a l news := by
 obtain ⟨A', c', he, _⟩ := h.slice
 injection he with h1 h2 h3
 subst h1; subst h2; subst h3
 exact h.src hp
theorem tr_append_all_m_step {B : Nat} {W : World} {ops : Array Oper} {o : Oper} {a : Act} {Q : Exit → Act → World → Prop} {Kc : Act → World → Prop} (hw : Region.wanted o (yielded ops a.tmps) = true) (s x : Operand) (ho : o.op = .call { callee := .builtin .append, args := #[s, x], argTypes := #[22, 22] })
  {v : Value} {l l' : List TxD} {X : Option Addr} {m cx : Nat} (hs : a.eval s = v) (hx : a.eval x = .slice X m cx) (hm : l'.length = m) (h : TR B W v l) (hn : SrcO B W X l') (hl : l.length + l'.length ≤ 1048576) (hB : B ≤ W.heap.size)
  (hK : ∀ v' w', TR B w' v' (l ++ l') → W.grownBy w' v.ownBlock → (v'.ownBlock = v.ownBlock ∨ ∃ b, v'.ownBlock = some b ∧ W.heap.size ≤ b) → Kc (a.put o.dst v') w') :
  if Region.wanted o (yielded ops a.tmps) = true then Oper.wp Try.prog o a W Kc Q else Kc (a.put o.dst undef) W := by
 subst hm
 exact tr_append_all_step hw s x ho hs hx h hn hl hB hK
theorem takes_is {w : World} {A : Option Addr} {c : Nat} {l : List TxD} (hC : Kd.C G.k32 w A l.length l) (hc : l.length ≤ c) (ha : ∀ t ∈ l, TxP1 t) (h1 : 1 ≤ l.length) (h2 : l.length ≤ 16) :
  Calls Try.prog 38 #[.slice A l.length c] w fun e w' => e = .returned (.bool true) ∧ Below w.heap.size w w' := by
 have hbo := batch_ok (l := l) (r := 0) (n := 0) ha h1 h2 (by decide) (by decide)
 have h4 := refEntry_is (w := w) ⟨1, 0, 0, l⟩ hC hc hbo.1
 dsimp only at h4
 rw [hbo.2.2.1] at h4
 obtain ⟨bs, hbs⟩ : ∃ bs, entB 1 0 0 l = bs := ⟨_, rfl⟩
 have hbl : bs.length ≤ 25000 := by rw [← hbs]; exact hbo.2.2.2
 rw [hbs] at h4
 have H4 := Lib.hid h4
 have q4 : decide (bs.length ≤ 65472) = true := decide_eq_true (by omega)
 have q5 : decide ((bs.length : Int) ≤ 65472) = true := decide_eq_true (by omega)
 clear hC hc ha h1 h2 hbo h4 hbs hbl
 go_enter Try.func38, Try.ntmps38
 go_wp2_with fail
 refine H4.out.mono ?_
 rintro e w2 ⟨v, rfl, hv, hb⟩
 obtain ⟨X, cx, rfl⟩ := Kd.R_slice hv
 have HB := Lib.hid hb
 clear hv hb
 go_wp2_with fail
 go_ret
 exact ⟨rfl, HB.out⟩
def RflushP (B : Nat) (W : World) (q : Nat) (s : SqS) (A : Option Addr) (e : Ending) (w' : World) : Prop :=
 ∃ A' c' E, e = .returned (.tuple #[.agg #[.int .i64 (qFlush s).2.1.f0, .int .i64 (qFlush s).2.1.f1, .int .i64 (qFlush s).2.1.f2, E], .bool (qFlush s).2.2]) ∧ IsRq B w' q (qFlush s).1 A' c' ∧ TR B w' E (qFlush s).2.1.f3 ∧ KeepS (sqS q q A) W w' ∧ NewRow W A A' ∧ ∀ k, E.ownBlock = some k → W.heap.size ≤ k
set_option maxHeartbeats 8000000 in
theorem rflush_yes {B : Nat} {W : World} {q : Nat} {s : SqS} {A : Option Addr} {c : Nat} (h : IsRq B W q s A c) (hl : s.l ≠ []) (hn : s.n < 1099511627776) :
  Calls Try.prog 21 #[.pointer (some ⟨q, 0, none⟩)] W fun e w' => RflushP B W q s A e w' := by
 obtain ⟨i0, infoTxn, infoTxnS⟩ := infoTxn0
 obtain ⟨hx, hb⟩ : (W.alloc (.cells #[.int .i64 0, .int .i64 0, .int .i64 0, .slice none 0 0] 36)).heap[W.heap.size]? = some (.cells #[.int .i64 0, .int .i64 0, .int .i64 0, .slice none 0 0] 36) ∧ Below W.heap.size W (W.alloc (.cells #[.int .i64 0, .int .i64 0, .int .i64 0, .slice none 0 0] 36)) := ⟨heap_alloc_new W _, (Below.refl _ W).alloc (Nat.le_refl _) _⟩
 obtain ⟨w0, hw⟩ : ∃ V, W.alloc (.cells #[.int .i64 0, .int .i64 0, .int .i64 0, .slice none 0 0] 36) = V := ⟨_, rfl⟩
 rw [hw] at hx hb
 have HQ := Lib.hid (h.below hb)
 have HX := Lib.hid hx; have HB := Lib.hid hb
 have HLT := Lib.hid (show (∀ k, sqS q q A k → k < W.heap.size) ∧ B ≤ W.heap.size from ⟨h.lt, Nat.le_trans h.bg (Nat.le_of_lt h.glt)⟩)
 have HL := Lib.hid (show 1 ≤ s.l.length ∧ s.l.length ≤ 64 from ⟨List.length_pos_iff.2 hl, h.o.m⟩)
 have HFL := Lib.hid (qFlush_some h.o hl hn)
 have HO := Lib.hid h.o
 have q1 : ((s.l.length : Int) == 0) = false := by have := List.length_pos_iff.2 hl; rw [beq_eq_false_iff_ne]; omega
 have q2 : decide (1099511627776 ≤ s.n) = false := decide_eq_false (by omega)
 have e1 : w0.cell? ⟨q, 1, none⟩ = some (.slice A s.l.length c) := (blk_cell HQ.out.y 1).trans rfl
 have e2 : w0.cell? ⟨q, 2, none⟩ = some (.int .i64 s.n) := (blk_cell HQ.out.y 2).trans rfl
 have HN := Lib.hid hn
 have HQW := Lib.hid h
 clear h hl hn hx hb
 go_enter Try.func21, Try.ntmps21
 go_upto_block 0 with fail
 try rw [hw]
 clear q1 q2 hw
 go_cut [4] (fun v wx => ∃ k : Nat, v = .int .i64 (k : Int) ∧ k = min s.l.length 16 ∧ Below w0.heap.size w0 wx)
 case first =>
  go_wp2_with fail
  go_loopw [4] (fun v wr => ∃ k : Nat, v = .int .i64 (k : Int) ∧ 1 ≤ k ∧ k ≤ s.l.length ∧ k ≤ 16 ∧ Below w0.heap.size w0 wr) (fun v _ => 16 - (intOf v).toNat)
  case atStart => exact ⟨1, rfl, by omega, HL.out.1, by omega, Below.refl _ _⟩
  case round =>
   obtain ⟨k, rfl, hk1, hk2, hk3, hb⟩ := hrel
   have HBr := Lib.hid hb
   have HQr := Lib.hid (HQ.out.below hb)
   have HK := Lib.hid (show 1 ≤ k ∧ k ≤ s.l.length ∧ k ≤ 16 from ⟨hk1, hk2, hk3⟩)
   clear e1 e2
   have e1 : wr.cell? ⟨q, 1, none⟩ = some (.slice A s.l.length c) := (blk_cell HQr.out.y 1).trans rfl
   clear hb
   by_cases ha : k < s.l.length
   ·by_cases hc : k < 16
    ·have q1 : decide (k < s.l.length) = true := decide_eq_true ha
     have q2 : decide (k < 16) = true := decide_eq_true hc
     have q3 : decide ((k : Int) < 16) = true := decide_eq_true (by omega)
     have HKK := Lib.hid (show k + 1 ≤ s.l.length ∧ k + 1 ≤ 16 from ⟨ha, hc⟩)
     have hlen : (s.l.take (k + 1)).length = k + 1 := by rw [List.length_take]; omega
     have hC := (HQr.out.r.take (m := k + 1) ha).reads
     have h4 := takes_is (w := wr) hC.2.2 (by rw [hlen]; exact hC.2.1) (fun t ht => HO.out.a t (List.mem_of_mem_take ht)) (by omega) (by omega)
     rw [hlen] at h4
     have HT := Lib.hid h4
     have HCUT := cut_to (P := Try.prog) 22 32 .i64 Try.underlying22 infoTxn A s.l.length c ((k : Int) + 1) (by omega) (by omega) HQr.out.r.reads.2.1
     rw [show ((k : Int) + 1).toNat = k + 1 by omega] at HCUT
     clear ha hc hlen hC h4 hk1 hk2
     go_wp2_with fail
     refine HT.out.mono ?_
     rintro e w3 ⟨rfl, hb⟩
     have HB3 := Lib.hid (HBr.out.trans (hb.mono HBr.out.size))
     clear hb HCUT
     go_wp2_with fail
     go_roundw
     case rel => exact ⟨k + 1, by go_num, by omega, HKK.out.1, HKK.out.2, HB3.out⟩
     case measure => have := HKK.out; simp [intOf]; omega
    ·have q1 : decide (k < s.l.length) = true := decide_eq_true ha
     have q2 : decide (k < 16) = false := decide_eq_false hc
     have q3 : decide ((k : Int) < 16) = false := decide_eq_false (by omega)
     have HM := Lib.hid (show k = min s.l.length 16 by omega)
     clear ha hc hk1 hk2 hk3
     go_wp2_with fail
     go_meet
     exact ⟨k, rfl, HM.out, HBr.out⟩
   ·have q1 : decide (k < s.l.length) = false := decide_eq_false ha
    have HM := Lib.hid (show k = min s.l.length 16 by omega)
    clear ha hk1 hk2 hk3
    go_wp2_with fail
    go_meet
    exact ⟨k, rfl, HM.out, HBr.out⟩
 obtain ⟨k, rfl, hk, hb⟩ := hcut
 have HWc := Lib.hid (HB.out.trans (hb.mono HB.out.size))
 have HXc := Lib.hid ((hb.block W.heap.size (blk_lt HX.out)).trans HX.out)
 have HK := Lib.hid (show 1 ≤ k ∧ k ≤ s.l.length ∧ k ≤ 16 by have := HL.out; omega)
 have HTK := Lib.hid (show s.l.take 16 = s.l.take k ∧ s.l.drop 16 = s.l.drop k by
  by_cases h16 : s.l.length ≤ 16
  ·rw [List.take_of_length_le h16, List.drop_of_length_le h16, List.take_of_length_le (by omega), List.drop_of_length_le (by omega)]; exact ⟨rfl, rfl⟩
  ·rw [show k = 16 by omega]; exact ⟨rfl, rfl⟩)
 have HQc := Lib.hid (HQW.out.below HWc.out)
 obtain ⟨w1, hw1⟩ : ∃ V, V = wc := ⟨_, rfl⟩
 rw [← hw1] at HWc HXc HQc ⊢
 clear hb hk e1 e2 HQ HX HB hw1
 go_upto_region 7 with fail
 go_cut [6] (fun v wx => ∃ (xb : Nat) (E : Option Addr) (ce : Nat), v = .pointer (some ⟨xb, 0, none⟩) ∧ wx.heap[xb]? = some (.cells #[.int .i64 1, .int .i64 s.r, .int .i64 s.n, .slice E k ce] 36) ∧ TR B wx (.slice E k ce) (s.l.take k) ∧ Below w1.heap.size w1 wx ∧ w1.heap.size ≤ xb ∧ ∀ a, E = some a → w1.heap.size ≤ a.block)
 case first =>
  have hcut := cut_to (P := Try.prog) 22 32 .i64 Try.underlying22 infoTxn A s.l.length c (k : Int) (by omega) (by have := HK.out; omega) HQc.out.r.reads.2.1
  rw [Int.toNat_natCast] at hcut
  have HLK := Lib.hid (show (s.l.take k).length = k by rw [List.length_take]; have := HK.out; omega)
  refine start_ (n := 19) (S := fun w' => w'.cell? ⟨q, 0, none⟩ = some (.int .i64 s.r) ∧ w'.cell? ⟨q, 2, none⟩ = some (.int .i64 s.n) ∧ w'.cell? ⟨q, 1, none⟩ = some (.slice A s.l.length c)) (ds := [18]) #[false, false, false, false, false, false, false, false, false, false, false, false, false, false, false, false, false, false, false] (by kernel_rfl) rfl rfl ⟨(blk_cell (show w1.drew.heap[q]? = _ from HQc.out.y) 0).trans rfl, (blk_cell (show w1.drew.heap[q]? = _ from HQc.out.y) 2).trans rfl, (blk_cell (show w1.drew.heap[q]? = _ from HQc.out.y) 1).trans rfl⟩ (fun hHeld => ?_)
  have HQd := Lib.hid (HQc.out.below (Below.refl _ w1).drew); have HWd := Lib.hid (Below.refl w1.heap.size w1).drew
  obtain ⟨wa, hwa⟩ : ∃ wa, w1.drew = wa := ⟨_, rfl⟩
  rw [hwa] at HQd HWd hHeld ⊢
  clear hwa
  have HTTS := Lib.hid (show SrcO B wa A (s.l.take k) from fun hp => TR.src' (HQd.out.r.take (m := k) HK.out.2.1) hp)
  refine pure_ (i := 0) (N := some 44) (v := ?_) (a' := ?_) #[true, false, false, false, false, false, false, false, false, false, false, false, false, false, false, false, false, false, false] rfl rfl (by kernel_rfl) (fun _ _ _ h => h) (Or.inl ⟨by rfl, ?_⟩) ?_ ?_
  rotate_left
  ·intro w'
   go_simp
   try with_reducible rfl
  rotate_left
  ·simp only [Act.put, sq1, sq2, sq3, i64_w, i32_w]
   rfl
  refine pure_ (i := 1) (N := some 45) (v := ?_) (a' := ?_) #[true, true, false, false, false, false, false, false, false, false, false, false, false, false, false, false, false, false, false] rfl rfl (by kernel_rfl) (fun _ _ _ h => h) (Or.inl ⟨by rfl, ?_⟩) ?_ ?_
  rotate_left
  ·intro w'
   go_simp
   try with_reducible rfl
  rotate_left
  ·simp only [Act.put, sq1, sq2, sq3, i64_w, i32_w]
   rfl
  refine pure_ (i := 2) (N := some 46) (v := ?_) (a' := ?_) #[true, true, true, false, false, false, false, false, false, false, false, false, false, false, false, false, false, false, false] rfl rfl (by kernel_rfl) (fun _ _ _ h => h) (Or.inl ⟨by rfl, ?_⟩) ?_ ?_
  rotate_left
  ·intro w'
   go_simp
   try with_reducible rfl
  rotate_left
  ·simp only [Act.put, sq1, sq2, sq3, i64_w, i32_w]
   rfl
  refine take_ (i := 3) (N := some 47) (v := ?_) (a' := ?_) #[true, true, true, true, false, false, false, false, false, false, false, false, false, false, false, false, false, false, false] rfl rfl (by kernel_rfl) (fun _ _ _ h => h) (Or.inl ⟨by rfl, ?_⟩) hHeld ?_ ?_
  rotate_left
  ·intro w' hS
   obtain ⟨hS, _⟩ := hS
   go_simp
   try with_reducible rfl
  rotate_left
  ·simp only [Act.put, sq1, sq2, sq3, i64_w, i32_w]
   rfl
  refine pure_ (i := 4) (N := some 48) (v := ?_) (a' := ?_) #[true, true, true, true, true, false, false, false, false, false, false, false, false, false, false, false, false, false, false] rfl rfl (by kernel_rfl) (fun _ _ _ h => h) (Or.inl ⟨by rfl, ?_⟩) ?_ ?_
  rotate_left
  ·intro w'
   go_simp
   try with_reducible rfl
  rotate_left
  ·simp only [Act.put, sq1, sq2, sq3, i64_w, i32_w]
   rfl
  refine pure_ (i := 5) (N := some 49) (v := ?_) (a' := ?_) #[true, true, true, true, true, true, false, false, false, false, false, false, false, false, false, false, false, false, false] rfl rfl (by kernel_rfl) (fun _ _ _ h => h) (Or.inl ⟨by rfl, ?_⟩) ?_ ?_
  rotate_left
  ·intro w'
   go_simp
   try with_reducible rfl
  rotate_left
  ·simp only [Act.put, sq1, sq2, sq3, i64_w, i32_w]
   rfl
  refine pure_ (i := 6) (N := some 50) (v := ?_) (a' := ?_) #[true, true, true, true, true, true, true, false, false, false, false, false, false, false, false, false, false, false, false] rfl rfl (by kernel_rfl) (fun _ _ _ h => h) (Or.inl ⟨by rfl, ?_⟩) ?_ ?_
  rotate_left
  ·intro w'
   go_simp
   try with_reducible rfl
  rotate_left
  ·simp only [Act.put, sq1, sq2, sq3, i64_w, i32_w]
   rfl
  refine take_ (i := 7) (N := some 51) (v := ?_) (a' := ?_) #[true, true, true, true, true, true, true, true, false, false, false, false, false, false, false, false, false, false, false] rfl rfl (by kernel_rfl) (fun _ _ _ h => h) (Or.inl ⟨by rfl, ?_⟩) hHeld ?_ ?_
  rotate_left
  ·intro w' hS
   obtain ⟨_, hS, _⟩ := hS
   go_simp
   try with_reducible rfl
  rotate_left
  ·simp only [Act.put, sq1, sq2, sq3, i64_w, i32_w]
   rfl
  refine pure_ (i := 8) (N := some 52) (v := ?_) (a' := ?_) #[true, true, true, true, true, true, true, true, true, false, false, false, false, false, false, false, false, false, false] rfl rfl (by kernel_rfl) (fun _ _ _ h => h) (Or.inl ⟨by rfl, ?_⟩) ?_ ?_
  rotate_left
  ·intro w'
   go_simp
   try with_reducible rfl
  rotate_left
  ·simp only [Act.put, sq1, sq2, sq3, i64_w, i32_w]
   rfl
  refine pure_ (i := 9) (N := some 53) (v := ?_) (a' := ?_) #[true, true, true, true, true, true, true, true, true, true, false, false, false, false, false, false, false, false, false] rfl rfl (by kernel_rfl) (fun _ _ _ h => h) (Or.inl ⟨by rfl, ?_⟩) ?_ ?_
  rotate_left
  ·intro w'
   go_simp
   try with_reducible rfl
  rotate_left
  ·simp only [Act.put, sq1, sq2, sq3, i64_w, i32_w]
   rfl
  refine pure_ (i := 10) (N := some 54) (v := ?_) (a' := ?_) #[true, true, true, true, true, true, true, true, true, true, true, false, false, false, false, false, false, false, false] rfl rfl (by kernel_rfl) (fun _ _ _ h => h) (Or.inl ⟨by rfl, ?_⟩) ?_ ?_
  rotate_left
  ·intro w'
   go_simp
   try with_reducible rfl
  rotate_left
  ·simp only [Act.put, sq1, sq2, sq3, i64_w, i32_w]
   rfl
  refine pure_ (i := 11) (N := some 55) (v := ?_) (a' := ?_) #[true, true, true, true, true, true, true, true, true, true, true, true, false, false, false, false, false, false, false] rfl rfl (by kernel_rfl) (fun _ _ _ h => h) (Or.inl ⟨by rfl, ?_⟩) ?_ ?_
  rotate_left
  ·intro w'
   go_simp
   try with_reducible rfl
  rotate_left
  ·simp only [Act.put, sq1, sq2, sq3, i64_w, i32_w]
   rfl
  refine take_ (i := 12) (N := some 56) (v := ?_) (a' := ?_) #[true, true, true, true, true, true, true, true, true, true, true, true, true, false, false, false, false, false, false] rfl rfl (by kernel_rfl) (fun _ _ _ h => h) (Or.inl ⟨by rfl, ?_⟩) hHeld ?_ ?_
  rotate_left
  ·intro w' hS
   obtain ⟨_, _, hS⟩ := hS
   go_simp
   try with_reducible rfl
  rotate_left
  ·simp only [Act.put, sq1, sq2, sq3, i64_w, i32_w]
   rfl
  refine pure_ (i := 13) (N := some 57) (v := ?_) (a' := ?_) #[true, true, true, true, true, true, true, true, true, true, true, true, true, true, false, false, false, false, false] rfl rfl (by kernel_rfl) (fun _ _ _ h => h) (Or.inl ⟨by rfl, ?_⟩) ?_ ?_
  rotate_left
  ·intro w'
   go_simp
   try with_reducible rfl
  rotate_left
  ·simp only [Act.put, sq1, sq2, sq3, i64_w, i32_w]
   rfl
  refine pure_ (i := 14) (N := some 58) (v := ?_) (a' := ?_) #[true, true, true, true, true, true, true, true, true, true, true, true, true, true, true, false, false, false, false] rfl rfl (by kernel_rfl) (fun _ _ _ h => h) (Or.inl ⟨by rfl, ?_⟩) ?_ ?_
  rotate_left
  ·intro w'
   go_simp
   try with_reducible rfl
  rotate_left
  ·simp only [Act.put, sq1, sq2, sq3, i64_w, i32_w]
   rfl
  clear hcut
  refine two_ (i := 15) (j := 17) (Ni := some 59) (Nj := some 6) #[true, true, true, true, true, true, true, true, true, true, true, true, true, true, true, true, false, false, false] #[true, true, true, true, true, true, true, true, true, true, true, true, true, true, true, false, false, true, false] rfl rfl rfl rfl (by kernel_rfl) (by decide) (by decide) (fun K hK => ?_) (fun K hK => ?_)
  ·skip
   refine tr_append_all_m_step (by rfl) (.tmp 52) (.tmp 58) rfl rfl rfl HLK.out (TR.nil B wa) (HTTS.out) (by have := HLK.out; have := HK.out; simp; omega) (by have := HLT.out.2; have := HWc.out.size; have := HWd.out.size; omega) ?_
   intro v_ w9 hn hg_ hat
   rw [List.nil_append] at hn
   obtain ⟨E, ce, rfl, _⟩ := hn.slice
   have HLE := Lib.hid HLK.out
   have HT9 := Lib.hid hn
   have HB9 := Lib.hid ((Below.refl wa.heap.size wa).grown hg_ (Nat.le_refl _) (fun k hk => by obtain ⟨a, ha, _⟩ := own_iff.1 hk; cases ha))
   have HE9 := Lib.hid (show ∀ a, E = some a → wa.heap.size ≤ a.block from fun a ha => by
    rcases (NewRow.of hat : NewRow wa none E) a ha with ⟨a0, h1, _⟩ | h1
    ·cases h1
    ·exact h1)
   rw [HLE.out] at HT9 ⊢
   clear hn hg_ hat HLE
   refine hK.out _ _ ⟨(blk_cell (HQd.out.below HB9.out).y 0).trans rfl, (blk_cell (HQd.out.below HB9.out).y 2).trans rfl, (blk_cell (HQd.out.below HB9.out).y 1).trans rfl⟩ (fun hHeld => ?_)
   clear hK K
   refine norm_ (a' := ?_) ?_ ?_
   rotate_left
   ·show Act.put _ (some 59) _ = _
    simp only [Act.put, sq1, sq2, sq3, i64_w, i32_w]
    rfl
   refine pure_ (i := 16) (N := some 60) (v := ?_) (a' := ?_) #[true, true, true, true, true, true, true, true, true, true, true, true, true, true, true, true, true, false, false] rfl rfl (by kernel_rfl) (fun _ _ _ h => h) (Or.inl ⟨by rfl, ?_⟩) ?_ ?_
   rotate_left
   ·intro w'
    go_simp
    try with_reducible rfl
   rotate_left
   ·simp only [Act.put, sq1, sq2, sq3, i64_w, i32_w]
    rfl
   refine one_ (i := 17) (N := some 6) #[true, true, true, true, true, true, true, true, true, true, true, true, true, true, true, true, true, true, false] rfl rfl (by kernel_rfl) (by decide) (fun K hK => ?_)
   refine value_ (w1 := ?_) (v := ?_) (by rfl) rfl ?_ ?_
   rotate_left 2
   ·go_simp
    constructor <;> rfl
   have HBz := Lib.hid ((Below.refl w9.heap.size w9).alloc (Nat.le_refl _) (.cells #[.int .i64 0, .int .i64 0, .int .i64 0, .slice none 0 0] 36))
   refine hK.out _ _ ⟨(blk_cell ((HQd.out.below HB9.out).below HBz.out).y 0).trans rfl, (blk_cell ((HQd.out.below HB9.out).below HBz.out).y 2).trans rfl, (blk_cell ((HQd.out.below HB9.out).below HBz.out).y 1).trans rfl⟩ (fun hHeld => ?_)
   clear hK K
   refine norm_ (a' := ?_) ?_ ?_
   rotate_left
   ·show Act.put _ (some 6) _ = _
    simp only [Act.put, sq1, sq2, sq3, i64_w, i32_w]
    rfl
   refine last_ (i := 18) (N := none) #[true, true, true, true, true, true, true, true, true, true, true, true, true, true, true, true, true, true, true] rfl rfl (by kernel_rfl) (by decide) (fun K hK => ?_)
   refine skip_ (w1 := ?_) (by rfl) rfl ?_ ?_
   rotate_left
   ·go_simp
    rfl
   refine hK.out _ _ ?_
   clear hK K
   refine done_ (by kernel_rfl) ?_
   have HB10 := Lib.hid ((Below.refl w9.heap.size w9).alloc (Nat.le_refl _) (.cells #[.int .i64 1, .int .i64 s.r, .int .i64 s.n, .slice E k ce] 36))
   go_wp2_with fail
   go_meet
   exact ⟨w9.heap.size, E, ce, rfl, heap_alloc_new w9 _, HT9.out.below HB10.out, HWd.out.trans ((HB9.out.trans (HB10.out.mono HB9.out.size)).mono HWd.out.size), by have := HB9.out.size; have := HWd.out.size; omega, fun a ha => by have := HE9.out a ha; have := HWd.out.size; omega⟩
  ·skip
   refine value_ (w1 := ?_) (v := ?_) (by rfl) rfl ?_ ?_
   rotate_left 2
   ·go_simp
    constructor <;> rfl
   have HBz := Lib.hid ((Below.refl wa.heap.size wa).alloc (Nat.le_refl _) (.cells #[.int .i64 0, .int .i64 0, .int .i64 0, .slice none 0 0] 36))
   refine hK.out _ _ ⟨(blk_cell (HQd.out.below HBz.out).y 0).trans rfl, (blk_cell (HQd.out.below HBz.out).y 2).trans rfl, (blk_cell (HQd.out.below HBz.out).y 1).trans rfl⟩ (fun hHeld => ?_)
   clear hK K
   refine norm_ (a' := ?_) ?_ ?_
   rotate_left
   ·show Act.put _ (some 6) _ = _
    simp only [Act.put, sq1, sq2, sq3, i64_w, i32_w]
    rfl
   have HX8 := Lib.hid (heap_alloc_new wa (.cells #[.int .i64 0, .int .i64 0, .int .i64 0, .slice none 0 0] 36))
   have HTTS8 := Lib.hid (HTTS.out.below HBz.out)
   obtain ⟨xb, hxb⟩ : ∃ xb, wa.heap.size = xb := ⟨_, rfl⟩
   have HXB := Lib.hid (show w1.heap.size ≤ xb by have := HWd.out.size; omega)
   obtain ⟨w8, hw8⟩ : ∃ V, wa.alloc (.cells #[.int .i64 0, .int .i64 0, .int .i64 0, .slice none 0 0] 36) = V := ⟨_, rfl⟩
   rw [hw8] at HBz HX8 HTTS8 hHeld ⊢
   rw [hxb] at HX8 ⊢
   clear hw8 hxb
   refine one_ (i := 15) (N := some 59) #[true, true, true, true, true, true, true, true, true, true, true, true, true, true, true, true, false, true, false] rfl rfl (by kernel_rfl) (by decide) (fun K hK => ?_)
   refine tr_append_all_m_step (by rfl) (.tmp 52) (.tmp 58) rfl rfl rfl HLK.out (TR.nil B w8) (HTTS8.out) (by have := HLK.out; have := HK.out; simp; omega) (by have := HLT.out.2; have := HWc.out.size; have := HWd.out.size; have := HBz.out.size; omega) ?_
   intro v_ w9 hn hg_ hat
   rw [List.nil_append] at hn
   obtain ⟨E, ce, rfl, _⟩ := hn.slice
   have HLE := Lib.hid HLK.out
   have HT9 := Lib.hid hn
   have HB9 := Lib.hid ((Below.refl w8.heap.size w8).grown hg_ (Nat.le_refl _) (fun k hk => by obtain ⟨a, ha, _⟩ := own_iff.1 hk; cases ha))
   have HE9 := Lib.hid (show ∀ a, E = some a → w8.heap.size ≤ a.block from fun a ha => by
    rcases (NewRow.of hat : NewRow w8 none E) a ha with ⟨a0, h1, _⟩ | h1
    ·cases h1
    ·exact h1)
   rw [HLE.out] at HT9 ⊢
   clear hn hg_ hat HLE
   have HX9 := Lib.hid ((HB9.out.block xb (blk_lt HX8.out)).trans HX8.out)
   refine hK.out _ _ ⟨(blk_cell ((HQd.out.below HBz.out).below HB9.out).y 0).trans rfl, (blk_cell ((HQd.out.below HBz.out).below HB9.out).y 2).trans rfl, (blk_cell ((HQd.out.below HBz.out).below HB9.out).y 1).trans rfl⟩ (fun hHeld => ?_)
   clear hK K
   refine norm_ (a' := ?_) ?_ ?_
   rotate_left
   ·show Act.put _ (some 59) _ = _
    simp only [Act.put, sq1, sq2, sq3, i64_w, i32_w]
    rfl
   refine pure_ (i := 16) (N := some 60) (v := ?_) (a' := ?_) #[true, true, true, true, true, true, true, true, true, true, true, true, true, true, true, true, true, true, false] rfl rfl (by kernel_rfl) (fun _ _ _ h => h) (Or.inl ⟨by rfl, ?_⟩) ?_ ?_
   rotate_left
   ·intro w'
    go_simp
    try with_reducible rfl
   rotate_left
   ·simp only [Act.put, sq1, sq2, sq3, i64_w, i32_w]
    rfl
   have b0 : w9.cell? ⟨xb, 0, none⟩ = some (.int .i64 0) := (blk_cell HX9.out 0).trans rfl
   have z0 : w9.frozen? ⟨xb, 0, none⟩ = false := blk_frozen HX9.out 0
   have b1 : w9.cell? ⟨xb, 1, none⟩ = some (.int .i64 0) := (blk_cell HX9.out 1).trans rfl
   have z1 : w9.frozen? ⟨xb, 1, none⟩ = false := blk_frozen HX9.out 1
   have b2 : w9.cell? ⟨xb, 2, none⟩ = some (.int .i64 0) := (blk_cell HX9.out 2).trans rfl
   have z2 : w9.frozen? ⟨xb, 2, none⟩ = false := blk_frozen HX9.out 2
   have b3 : w9.cell? ⟨xb, 3, none⟩ = some (.slice none 0 0) := (blk_cell HX9.out 3).trans rfl
   have z3 : w9.frozen? ⟨xb, 3, none⟩ = false := blk_frozen HX9.out 3
   refine last_ (i := 18) (N := none) #[true, true, true, true, true, true, true, true, true, true, true, true, true, true, true, true, true, true, true] rfl rfl (by kernel_rfl) (by decide) (fun K hK => ?_)
   refine skip_ (w1 := ?_) (by rfl) rfl ?_ ?_
   rotate_left
   ·go_simp
    rfl
   refine hK.out _ _ ?_
   clear hK K
   refine done_ (by kernel_rfl) ?_
   have hks := ((((KeepS.refl (fun i => i = xb) w9).set (p := ⟨xb, 0, none⟩) (.inl rfl) (.int .i64 1)).set (p := ⟨xb, 1, none⟩) (.inl rfl) (.int .i64 s.r)).set (p := ⟨xb, 2, none⟩) (.inl rfl) (.int .i64 s.n)).set (p := ⟨xb, 3, none⟩) (.inl rfl) (.slice E k ce)
   have hbx : ((((w9.setCell ⟨xb, 0, none⟩ (.int .i64 1)).setCell ⟨xb, 1, none⟩ (.int .i64 s.r)).setCell ⟨xb, 2, none⟩ (.int .i64 s.n)).setCell ⟨xb, 3, none⟩ (.slice E k ce)).heap[xb]? = some (.cells #[.int .i64 1, .int .i64 s.r, .int .i64 s.n, .slice E k ce] 36) := (blk_put (blk_put (blk_put (blk_put HX9.out 0 (.int .i64 1) rfl) 1 (.int .i64 s.r) rfl) 2 (.int .i64 s.n) rfl) 3 (.slice E k ce) rfl)
   have HKS := Lib.hid hks; have HBX := Lib.hid hbx
   have HBB := Lib.hid (HWd.out.trans ((HBz.out.trans (HB9.out.mono HBz.out.size)).mono HWd.out.size))
   have hfin := (HT9.out.keep HKS.out (fun i e => by subst e; exact not_inn (by have := HLT.out.2; have := HWc.out.size; have := HXB.out; omega) HX9.out en_not) (fun i hi e => by obtain ⟨a, ha, e2⟩ := own_iff.1 hi; have := HE9.out a ha; have := blk_lt HX8.out; omega))
   have HFIN := Lib.hid hfin
   clear hks hbx hfin b0 b1 b2 b3 z0 z1 z2 z3
   go_wp2_with fail
   go_meet
   exact ⟨xb, E, ce, rfl, HBX.out, HFIN.out, HBB.out.trans (HKS.out.below HBB.out.size (fun i e => by have := HXB.out; omega)), HXB.out, fun a ha => by have := HE9.out a ha; have := HBz.out.size; have := HWd.out.size; omega⟩
 obtain ⟨xb, E, ce, rfl, hX, hT, hb, hxb, hE⟩ := hcut
 have HX2 := Lib.hid hX; have HT2 := Lib.hid hT; have HXB := Lib.hid hxb; have HE2 := Lib.hid hE
 have HQ2 := Lib.hid (HQc.out.below hb); have HR2 := Lib.hid ((hb.block W.heap.size (blk_lt HXc.out)).trans HXc.out); have HW2 := Lib.hid (HWc.out.trans (hb.mono HWc.out.size))
 have HRB := Lib.hid (show W.heap.size < w1.heap.size from blk_lt HXc.out)
 obtain ⟨w2, hw2⟩ : ∃ V, V = wc := ⟨_, rfl⟩
 rw [← hw2] at HX2 HT2 HQ2 HR2 HW2 ⊢
 clear hX hT hb hxb hE HQc HXc HWc hw2
 obtain ⟨A1, hA1⟩ : ∃ A1, (if c = k then A else A.map (·.add (k * 6))) = A1 := ⟨_, rfl⟩
 have HNR := Lib.hid (show ∀ a, A1 = some a → ∃ a0, A = some a0 ∧ a0.block = a.block from fun a ha => by
  rw [← hA1] at ha
  split at ha
  ·exact ⟨a, ha, rfl⟩
  ·cases hA : A with
   | none => rw [hA] at ha; cases ha
   | some a0 =>
    rw [hA, Option.map_some] at ha
    injection ha with ha
    exact ⟨a0, rfl, by rw [← ha]; simp [Addr.add]; split <;> rfl⟩)
 have hcut := cut_from (P := Try.prog) 22 32 .i64 Try.underlying22 infoTxn 6 infoTxnS A s.l.length c (k : Int) (by omega) (by have := HK.out; omega)
 rw [Int.toNat_natCast, hA1] at hcut
 have HD := Lib.hid (HQ2.out.r.drop HK.out.2.1)
 rw [hA1] at HD
 have HLD := Lib.hid (show (s.l.drop k).length = s.l.length - k from List.length_drop)
 have y1 : w2.cell? ⟨q, 1, none⟩ = some (.slice A s.l.length c) := (blk_cell HQ2.out.y 1).trans rfl
 have y1z : w2.frozen? ⟨q, 1, none⟩ = false := blk_frozen HQ2.out.y 1
 have y2 : w2.cell? ⟨q, 2, none⟩ = some (.int .i64 s.n) := (blk_cell HQ2.out.y 2).trans rfl
 have y2z : w2.frozen? ⟨q, 2, none⟩ = false := blk_frozen HQ2.out.y 2
 have n1 : 0 ≤ s.n := HO.out.n.1
 have n2 : s.n < 1099511627776 := HN.out
 clear hA1
 go_upto_region 10 with fail
 have HKG := Lib.hid (((KeepS.refl (fun i => i = q) w2).set (p := ⟨q, 1, none⟩) (.inl rfl) (.slice A1 (s.l.length - k) (c - k))).set (p := ⟨q, 2, none⟩) (.inl rfl) (.int .i64 (s.n + 1)))
 have HNG := Lib.hid (show ∀ i, i = q → ¬ Inn B w2 i from fun i e => by subst e; exact not_inn HQ2.out.bg HQ2.out.y rq_not)
 have HY3 := Lib.hid (show ((w2.setCell ⟨q, 1, none⟩ (.slice A1 (s.l.length - k) (c - k))).setCell ⟨q, 2, none⟩ (.int .i64 (s.n + 1))).heap[q]? = some (.cells #[.int .i64 s.r, .slice A1 (s.l.length - k) (c - k), .int .i64 (s.n + 1), .int .i64 s.t] 62) from blk_put (blk_put HQ2.out.y 1 _ rfl) 2 _ rfl)
 have HQL := Lib.hid (show q < W.heap.size from HLT.out.1 q (.inl rfl))
 have HX3 := Lib.hid ((HKG.out.block xb (blk_lt HX2.out) (by have := HQL.out; have := HRB.out; have := HXB.out; omega)).trans HX2.out)
 have HR3 := Lib.hid ((HKG.out.block W.heap.size (blk_lt HR2.out) (by have := HQL.out; omega)).trans HR2.out)
 have HT3 := Lib.hid (HT2.out.keep HKG.out HNG.out (fun i hi e => by obtain ⟨a, ha, e2⟩ := own_iff.1 hi; have := HE2.out a ha; have := HQL.out; have := HRB.out; omega))
 have HD3 := Lib.hid (HD.out.keep HKG.out HNG.out (fun i hi e => by obtain ⟨a, ha, e2⟩ := own_iff.1 hi; obtain ⟨a0, h1, h2⟩ := HNR.out a ha; exact HQ2.out.own_ne h1 (h2.trans (e2.trans e))))
 have HW3 := Lib.hid ((KeepS.of_below (sqS q q A) HW2.out).trans (HKG.out.mono (fun i e => .inl e)))
 obtain ⟨w3, hw3⟩ : ∃ V, (w2.setCell ⟨q, 1, none⟩ (.slice A1 (s.l.length - k) (c - k))).setCell ⟨q, 2, none⟩ (.int .i64 (s.n + 1)) = V := ⟨_, rfl⟩
 rw [hw3] at HY3 HX3 HR3 HT3 HD3 HW3 ⊢
 clear hw3 y1 y1z y2 y2z n1 n2 hcut HKG HNG HX2 HT2 HR2 HW2 HD
 have b0 : w3.cell? ⟨xb, 0, none⟩ = some (.int .i64 1) := (blk_cell HX3.out 0).trans rfl
 have b1 : w3.cell? ⟨xb, 1, none⟩ = some (.int .i64 s.r) := (blk_cell HX3.out 1).trans rfl
 have b2 : w3.cell? ⟨xb, 2, none⟩ = some (.int .i64 s.n) := (blk_cell HX3.out 2).trans rfl
 have b3 : w3.cell? ⟨xb, 3, none⟩ = some (.slice E k ce) := (blk_cell HX3.out 3).trans rfl
 have x0 : w3.cell? ⟨W.heap.size, 0, none⟩ = some (.int .i64 0) := (blk_cell HR3.out 0).trans rfl
 have z0 : w3.frozen? ⟨W.heap.size, 0, none⟩ = false := blk_frozen HR3.out 0
 have x1 : w3.cell? ⟨W.heap.size, 1, none⟩ = some (.int .i64 0) := (blk_cell HR3.out 1).trans rfl
 have z1 : w3.frozen? ⟨W.heap.size, 1, none⟩ = false := blk_frozen HR3.out 1
 have x2 : w3.cell? ⟨W.heap.size, 2, none⟩ = some (.int .i64 0) := (blk_cell HR3.out 2).trans rfl
 have z2 : w3.frozen? ⟨W.heap.size, 2, none⟩ = false := blk_frozen HR3.out 2
 have x3 : w3.cell? ⟨W.heap.size, 3, none⟩ = some (.slice none 0 0) := (blk_cell HR3.out 3).trans rfl
 have z3 : w3.frozen? ⟨W.heap.size, 3, none⟩ = false := blk_frozen HR3.out 3
 go_wp2_with fail
 refine bodyPost_ret (v := .tuple #[.agg #[.int .i64 1, .int .i64 s.r, .int .i64 s.n, .slice E k ce], .bool true]) ?_ rfl ?_
 ·rw [results_cell_tmp rfl]
  go_simp
 ·have HKX := ((((KeepS.refl (fun i => i = W.heap.size) w3).set (p := ⟨W.heap.size, 0, none⟩) (.inl rfl) (.int .i64 1)).set (p := ⟨W.heap.size, 1, none⟩) (.inl rfl) (.int .i64 s.r)).set (p := ⟨W.heap.size, 2, none⟩) (.inl rfl) (.int .i64 s.n)).set (p := ⟨W.heap.size, 3, none⟩) (.inl rfl) (.slice E k ce)
  have hlr : (s.l.drop 16).length = s.l.length - k := by rw [HTK.out.2]; exact HLD.out
  have hni : ∀ i, i = W.heap.size → ¬ Inn B w3 i := fun i e => by subst e; exact not_inn HLT.out.2 HR3.out en_not
  refine ⟨A1, c - k, .slice E k ce, by rw [HFL.out], ?_, ?_, ((((HW3.out.set (p := ⟨W.heap.size, 0, none⟩) (.inr (Nat.le_refl _)) (.int .i64 1)).set (p := ⟨W.heap.size, 1, none⟩) (.inr (Nat.le_refl _)) (.int .i64 s.r)).set (p := ⟨W.heap.size, 2, none⟩) (.inr (Nat.le_refl _)) (.int .i64 s.n)).set (p := ⟨W.heap.size, 3, none⟩) (.inr (Nat.le_refl _)) (.slice E k ce)), fun a ha => .inl (HNR.out a ha), fun i hi => by obtain ⟨a, ha, e2⟩ := own_iff.1 hi; have := HE2.out a ha; have := HRB.out; omega⟩
  ·rw [HFL.out]
   refine ⟨?_, ?_, ?_, HQ2.out.bg⟩
   ·show _ = some (Obj.cells #[.int .i64 s.r, .slice A1 (s.l.drop 16).length (c - k), .int .i64 (s.n + 1), .int .i64 s.t] _ _)
    rw [hlr]
    exact (HKX.block q (blk_lt HY3.out) (by have := HQL.out; omega)).trans HY3.out
   ·show TR B _ (.slice A1 (s.l.drop 16).length (c - k)) (s.l.drop 16)
    rw [hlr, HTK.out.2]
    exact HD3.out.keep HKX hni (fun i hi e => by obtain ⟨a, ha, e2⟩ := own_iff.1 hi; obtain ⟨a0, h1, h2⟩ := HNR.out a ha; have := HLT.out.1 a0.block (.inr (.inr ⟨a0, h1, rfl⟩)); omega)
   ·have := HO.out.flush
    rw [HFL.out] at this
    exact this
  ·rw [HFL.out]
   show TR B _ (.slice E k ce) (s.l.take 16)
   rw [HTK.out.1]
   exact HT3.out.keep HKX hni (fun i hi e => by obtain ⟨a, ha, e2⟩ := own_iff.1 hi; have := HE2.out a ha; have := HRB.out; omega)
end Go.Proofs.Ytgmlpmdfkaadhaa.M
end

section
/- The reference's Flush and Tick, whatever waits. -/
attribute [local irreducible] Go.wpStill
namespace Go.Proofs.Ytgmlpmdfkaadhaa.M
open Go.RowKit Go.Proofs.YtgmlpmdfkaadhaaW.PrintWords Go.Proofs.YtgmlpmdfkaadhaaW.PrintLast Go.Proofs.YtgmlpmdfkaadhaaW.PrintMore Go.Proofs.Ytgmlpmdfkaadhaa.G
theorem rflush_nob {B : Nat} {W : World} {q : Nat} {s : SqS} {A : Option Addr} {c : Nat} (h : IsRq B W q s A c) (hl : s.l = [] ∨ 1099511627776 ≤ s.n) :
  Calls Try.prog 21 #[.pointer (some ⟨q, 0, none⟩)] W fun e w' => e = .returned (.tuple #[.agg #[.int .i64 0, .int .i64 0, .int .i64 0, .slice none 0 0], .bool false]) ∧ Below W.heap.size W w' := by
 have hb := (Below.refl W.heap.size W).alloc (Nat.le_refl _) (.cells #[.int .i64 0, .int .i64 0, .int .i64 0, .slice none 0 0] 36)
 have HB := Lib.hid hb
 have e1 : (W.alloc (.cells #[.int .i64 0, .int .i64 0, .int .i64 0, .slice none 0 0] 36)).cell? ⟨q, 1, none⟩ = some (.slice A s.l.length c) := (blk_cell (h.below hb).y 1).trans rfl
 have e2 : (W.alloc (.cells #[.int .i64 0, .int .i64 0, .int .i64 0, .slice none 0 0] 36)).cell? ⟨q, 2, none⟩ = some (.int .i64 s.n) := (blk_cell (h.below hb).y 2).trans rfl
 obtain ⟨w0, hw⟩ : ∃ V, W.alloc (.cells #[.int .i64 0, .int .i64 0, .int .i64 0, .slice none 0 0] 36) = V := ⟨_, rfl⟩
 have HX := Lib.hid (heap_alloc_new W (.cells #[.int .i64 0, .int .i64 0, .int .i64 0, .slice none 0 0] 36))
 rw [hw] at e1 e2 HB HX
 by_cases h0 : s.l = []
 ·have q1 : ((s.l.length : Int) == 0) = true := by rw [h0]; rfl
  clear h hl hb h0
  go_enter Try.func21, Try.ntmps21
  go_upto_region 2 with fail
  try rw [hw]
  have x0 : w0.cell? ⟨W.heap.size, 0, none⟩ = some (.int .i64 0) := (blk_cell HX.out 0).trans rfl
  have x1 : w0.cell? ⟨W.heap.size, 1, none⟩ = some (.int .i64 0) := (blk_cell HX.out 1).trans rfl
  have x2 : w0.cell? ⟨W.heap.size, 2, none⟩ = some (.int .i64 0) := (blk_cell HX.out 2).trans rfl
  have x3 : w0.cell? ⟨W.heap.size, 3, none⟩ = some (.slice none 0 0) := (blk_cell HX.out 3).trans rfl
  obtain ⟨y0, y1, y2, y3⟩ := bf4 HX.out
  clear hw
  go_wp2_with fail
  refine bodyPost_ret (v := .tuple #[.agg #[.int .i64 0, .int .i64 0, .int .i64 0, .slice none 0 0], .bool false]) ?_ rfl ⟨rfl, (((HB.out.setCell (p := ⟨W.heap.size, 0, none⟩) (Nat.le_refl _) _).setCell (p := ⟨W.heap.size, 1, none⟩) (Nat.le_refl _) _).setCell (p := ⟨W.heap.size, 2, none⟩) (Nat.le_refl _) _).setCell (p := ⟨W.heap.size, 3, none⟩) (Nat.le_refl _) _⟩
  rw [results_cell_tmp rfl]
  go_simp
 ·have q1 : ((s.l.length : Int) == 0) = false := by have := List.length_pos_iff.2 h0; rw [beq_eq_false_iff_ne]; omega
  have q2 : decide (1099511627776 ≤ s.n) = true := decide_eq_true (by rcases hl with h | h; exact absurd h h0; exact h)
  clear h hl hb h0
  go_enter Try.func21, Try.ntmps21
  go_upto_region 2 with fail
  try rw [hw]
  have x0 : w0.cell? ⟨W.heap.size, 0, none⟩ = some (.int .i64 0) := (blk_cell HX.out 0).trans rfl
  have x1 : w0.cell? ⟨W.heap.size, 1, none⟩ = some (.int .i64 0) := (blk_cell HX.out 1).trans rfl
  have x2 : w0.cell? ⟨W.heap.size, 2, none⟩ = some (.int .i64 0) := (blk_cell HX.out 2).trans rfl
  have x3 : w0.cell? ⟨W.heap.size, 3, none⟩ = some (.slice none 0 0) := (blk_cell HX.out 3).trans rfl
  obtain ⟨y0, y1, y2, y3⟩ := bf4 HX.out
  clear hw
  go_wp2_with fail
  refine bodyPost_ret (v := .tuple #[.agg #[.int .i64 0, .int .i64 0, .int .i64 0, .slice none 0 0], .bool false]) ?_ rfl ⟨rfl, (((HB.out.setCell (p := ⟨W.heap.size, 0, none⟩) (Nat.le_refl _) _).setCell (p := ⟨W.heap.size, 1, none⟩) (Nat.le_refl _) _).setCell (p := ⟨W.heap.size, 2, none⟩) (Nat.le_refl _) _).setCell (p := ⟨W.heap.size, 3, none⟩) (Nat.le_refl _) _⟩
  rw [results_cell_tmp rfl]
  go_simp
theorem rflush_is {B : Nat} {W : World} {q : Nat} {s : SqS} {A : Option Addr} {c : Nat} (h : IsRq B W q s A c) :
  Calls Try.prog 21 #[.pointer (some ⟨q, 0, none⟩)] W fun e w' => RflushP B W q s A e w' := by
 by_cases hl : s.l = [] ∨ 1099511627776 ≤ s.n
 ·refine (rflush_nob h hl).mono ?_
  rintro e w' ⟨rfl, hb⟩
  have e1 : qFlush s = (s, zE, false) := by unfold qFlush; rw [if_pos hl]
  exact ⟨A, c, .slice none 0 0, by rw [e1]; rfl, by rw [e1]; exact h.below hb, by rw [e1]; exact TR.nil _ _, KeepS.of_below _ hb, NewRow.refl _ _, fun k hk => by simp [Value.ownBlock] at hk⟩
 ·exact rflush_yes h (fun e => hl (.inl e)) (by have := fun e => hl (.inr e); omega)
theorem IsRq.setT {B : Nat} {W : World} {q : Nat} {s : SqS} {A : Option Addr} {c : Nat} (h : IsRq B W q s A c) (x : Int) (hx : 0 ≤ x ∧ x < 4) (y : Value) : IsRq B ((W.setCell ⟨q, 3, none⟩ y).setCell ⟨q, 3, none⟩ (.int .i64 x)) q { s with t := x } A c := by
 have hk := ((KeepS.refl (fun i => i = q) W).set (p := ⟨q, 3, none⟩) (.inl rfl) y).set (p := ⟨q, 3, none⟩) (.inl rfl) (.int .i64 x)
 have hni : ∀ i, i = q → ¬ Inn B W i := fun i e => by subst e; exact not_inn h.bg h.y rq_not
 refine ⟨?_, h.r.keep hk hni (fun k hk e => by obtain ⟨a, ha, e2⟩ := own_iff.1 hk; exact h.own_ne ha (e2.trans e)), ⟨h.o.r, h.o.n, hx, h.o.m, h.o.a, h.o.u⟩, h.bg⟩
 exact blk_put (blk_put h.y 3 _ rfl) 3 _ rfl
end Go.Proofs.Ytgmlpmdfkaadhaa.M
end

section
/- The sequencer's Clone. -/
attribute [local irreducible] Go.wpStill
namespace Go.Proofs.Ytgmlpmdfkaadhaa.M
open Go.RowKit Go.Proofs.YtgmlpmdfkaadhaaW.PrintWords Go.Proofs.YtgmlpmdfkaadhaaW.PrintLast Go.Proofs.YtgmlpmdfkaadhaaW.PrintMore Go.Proofs.Ytgmlpmdfkaadhaa.G
end Go.Proofs.Ytgmlpmdfkaadhaa.M
end

section
/- The sequencer and the reference side by side; a script's operation, read. -/
namespace Go.Proofs.Ytgmlpmdfkaadhaa.M
open Go.RowKit Go.Proofs.YtgmlpmdfkaadhaaW.PrintWords Go.Proofs.YtgmlpmdfkaadhaaW.PrintLast Go.Proofs.YtgmlpmdfkaadhaaW.PrintMore Go.Proofs.Ytgmlpmdfkaadhaa.G
structure OpAt (w : World) (p : Addr) (o : OpQ) (A2 : Option Addr) (c2 : Nat) (A3 : Option Addr) (c3 : Nat) (A4 : Option Addr) (c4 : Nat) (A5 : Option Addr) (c5 : Nat) : Prop where
 e0 : w.cell? p = some (.int .i64 o.k)
 e1 : w.cell? ⟨p.block, p.off + 1, none⟩ = some (.int .i64 o.t.f0)
 e2 : w.cell? ⟨p.block, p.off + 2, none⟩ = some (.int .i64 o.t.f1)
 e3 : w.cell? ⟨p.block, p.off + 3, none⟩ = some (.slice A2 o.t.f2.length c2)
 e4 : w.cell? ⟨p.block, p.off + 4, none⟩ = some (.slice A3 o.t.f3.length c3)
 e5 : w.cell? ⟨p.block, p.off + 5, none⟩ = some (.slice A4 o.t.f4.length c4)
 e6 : w.cell? ⟨p.block, p.off + 6, none⟩ = some (.slice A5 o.t.f5.length c5)
structure Two (B : Nat) (w0 W : World) (g mp nb q : Nat) (s : SqS) (A : Option Addr) (c : Nat) (r : SqS) (A' : Option Addr) (c' : Nat) : Prop where
 s : IsSq B W g mp nb s A c
 f : IsRq B W q r A' c'
 d : Below B w0 W
 x : ∀ k, sqS g mp A k → ¬ sqS q q A' k
section
variable {B : Nat} {w0 W W' : World} {g mp nb q : Nat} {s s' r r' : SqS} {A A' A2 : Option Addr} {c c' c2 nb' : Nat}
theorem Two.le (h : Two B w0 W g mp nb q s A c r A' c') : B ≤ W.heap.size := Nat.le_trans h.s.bg (Nat.le_of_lt h.s.glt)
theorem Two.below (h : Two B w0 W g mp nb q s A c r A' c') (hb : Below W.heap.size W W') : Two B w0 W' g mp nb q s A c r A' c' := ⟨h.s.below hb, h.f.below hb, h.d.trans (hb.mono h.le), h.x⟩
theorem Two.goS (h : Two B w0 W g mp nb q s A c r A' c') (hq : IsSq B W' g mp nb' s' A2 c2) (hk : KeepS (sqS g mp A) W W') (hn : NewRow W A A2) : Two B w0 W' g mp nb' q s' A2 c2 r A' c' :=
 ⟨hq, h.f.keep hk h.s.out (fun k e hs => h.x k hs e), h.d.trans (hk.below h.le h.s.ge), fun k e e' => by
  rcases sqS_new hn k e with e1 | e1
  ·exact h.x k e1 e'
  ·have := h.f.lt k e'; omega⟩
theorem Two.goF (h : Two B w0 W g mp nb q s A c r A' c') (hq : IsRq B W' q r' A2 c2) (hk : KeepS (sqS q q A') W W') (hn : NewRow W A' A2) : Two B w0 W' g mp nb q s A c r' A2 c2 :=
 ⟨h.s.keep hk h.f.out (fun k e hs => h.x k e hs), hq, h.d.trans (hk.below h.le h.f.ge), fun k e e' => by
  rcases sqS_new hn k e' with e1 | e1
  ·exact h.x k e e1
  ·have := h.s.lt k e; omega⟩
theorem Two.box {b : Nat} (h : Two B w0 W g mp nb q s A c r A' c') (hk : KeepS (fun i => i = b) W W') (hB : B ≤ b) (hni : ¬ Inn B W b) (hs : ¬ sqS g mp A b) (hf : ¬ sqS q q A' b) : Two B w0 W' g mp nb q s A c r A' c' :=
 ⟨h.s.keep hk (fun i e => by subst e; exact hni) (fun i e e' => by subst e'; exact hs e), h.f.keep hk (fun i e => by subst e; exact hni) (fun i e e' => by subst e'; exact hf e), h.d.trans (hk.below h.le (fun i e => by omega)), h.x⟩
end
end Go.Proofs.Ytgmlpmdfkaadhaa.M
end

section
/- Take of a first transaction, may it be or not: what the call made itself stays though older rows are spoilt. -/
namespace Go.Proofs.Ytgmlpmdfkaadhaa.M
open Go.RowKit Go.Proofs.YtgmlpmdfkaadhaaW.PrintWords Go.Proofs.YtgmlpmdfkaadhaaW.PrintLast Go.Proofs.YtgmlpmdfkaadhaaW.PrintMore Go.Proofs.Ytgmlpmdfkaadhaa.G
theorem szL_len {α : Type} {sz : α → Nat} (h : ∀ x, 1 ≤ sz x) : ∀ l : List α, l.length ≤ szL sz l
 | [] => by simp
 | x :: l => by
  have h1 := h x; have h2 := szL_len h l
  unfold szL at h2 ⊢
  simp only [List.length_cons, List.map_cons, List.sum_cons]
  omega
theorem smT_bulk {t : TxD} (h : szT t ≤ 1048576) : SmT t := by
 unfold szT at h
 have h2 : t.f2.length ≤ szN t.f2 := szL_len (sz := fun _ : Int => 1) (fun _ => Nat.le_refl _) t.f2
 have h3 : t.f3.length ≤ szN t.f3 := szL_len (sz := fun _ : Int => 1) (fun _ => Nat.le_refl _) t.f3
 have h4 := szL_len (sz := szK) (fun _ => by unfold szK; omega) t.f4
 have h5 := szL_len (sz := szK) (fun _ => by unfold szK; omega) t.f5
 exact ⟨by omega, by omega, by omega, by omega⟩
def tl (t : TxD) : List TxD := if mayT t = true then [t] else []
def tz (t : TxD) : Int := if mayT t = true then 0 else 1
def Low (lo : Nat) (W : World) (A : Option Addr) (c : Nat) (l : List TxD) : Prop := (l = [] ∧ A = none ∧ c = 0) ∨ ∃ t, l = [t] ∧ Fresh1 lo W A c t
section
variable {B lo : Nat} {w0 W W' : World} {A A' : Option Addr} {c c' : Nat} {l : List TxD}
theorem Low.keep {S : Nat → Prop} (h : Low lo W A c l) (hk : KeepS S W W') (hS : ∀ k, S k → k < lo) : Low lo W' A c l := by
 rcases h with h | ⟨t, h, hf⟩
 ·exact .inl h
 ·exact .inr ⟨t, h, hf.keep hk hS⟩
theorem Low.below (h : Low lo W A c l) (hb : Below W.heap.size W W') : Low lo W' A c l := h.keep (KeepS.of_below (fun _ => False) hb) (fun _ e => e.elim)
theorem Low.tr (h : Low lo W A c l) (hB : B ≤ lo) : TR B W (.slice A l.length c) l := by
 rcases h with ⟨rfl, rfl, rfl⟩ | ⟨t, rfl, hf⟩
 ·exact TR.nil _ _
 ·exact hf.tr hB
theorem Low.ge (h : Low lo W A c l) : ∀ a, A = some a → lo ≤ a.block := fun a ha => by
 rcases h with ⟨_, rfl, _⟩ | ⟨t, rfl, news, hq, _⟩
 ·cases ha
 ·exact (q_typed hq a.block (own_iff.2 ⟨a, ha, rfl⟩)).1
theorem Two.spoilt {S : Nat → Prop} {g mp nb q : Nat} {s r : SqS} {lo' : Nat} (h : Two B w0 W g mp nb q s A c r A' c') (h1 : Low lo W A c s.l) (h2 : Low lo' W A' c' r.l) (hB : B ≤ lo) (hlo : lo ≤ lo') (hk : KeepS S W W') (hS : ∀ k, S k → B ≤ k ∧ k < lo ∧ k ≠ g ∧ k ≠ mp ∧ k ≠ q) : Two B w0 W' g mp nb q s A c r A' c' :=
 ⟨⟨(hk.block g h.s.glt (fun e => (hS g e).2.2.1 rfl)).trans h.s.y, h.s.m.move (hk.block mp h.s.m.lt (fun e => (hS mp e).2.2.2.1 rfl)), (h1.keep hk (fun k e => (hS k e).2.1)).tr hB, h.s.o, h.s.bg, h.s.bm⟩,
  ⟨(hk.block q h.f.glt (fun e => (hS q e).2.2.2.2 rfl)).trans h.f.y, (h2.keep hk (fun k e => by have := (hS k e).2.1; omega)).tr (Nat.le_trans hB hlo), h.f.o, h.f.bg⟩,
  h.d.trans (hk.below h.le (fun k e => (hS k e).1)), h.x⟩
end
theorem take_low {B : Nat} {W : World} {g mp nb : Nat} {s : SqS} {A : Option Addr} {c : Nat} (h : IsSq B W g mp nb s A c) (hs0 : s.l = [] ∧ A = none ∧ c = 0) {t : TxD} {A2 A3 A4 A5 : Option Addr} {c2 c3 c4 c5 : Nat} (hF : Kd.FK G.k32 W (Inn B W) t [.int .i64 t.f0, .int .i64 t.f1, .slice A2 t.f2.length c2, .slice A3 t.f3.length c3, .slice A4 t.f4.length c4, .slice A5 t.f5.length c5]) (ho : okT t = true) (hn : nb < maxLen) (hwf : wf2 .i64 .i64 (t.f0, t.f1)) :
  Calls Try.prog 10 #[.pointer (some ⟨g, 0, none⟩), .agg #[.int .i64 t.f0, .int .i64 t.f1, .slice A2 t.f2.length c2, .slice A3 t.f3.length c3, .slice A4 t.f4.length c4, .slice A5 t.f5.length c5]] W fun e w' => ∃ A' c', e = .returned (.int .i64 (tz t)) ∧ IsSq B w' g mp (nb + 1) { s with l := tl t } A' c' ∧ KeepS (sqS g mp A) W w' ∧ NewRow W A A' ∧ Low W.heap.size w' A' c' (tl t) := by
 cases hm : mayT t with
 | true =>
  refine (take_own h hs0 hF ho hm hn hwf).mono ?_
  rintro e w' ⟨A', c', rfl, hQ, hK, hN, hf⟩
  have e1 : tl t = [t] := by unfold tl; rw [if_pos hm]
  have e2 : tz t = 0 := by unfold tz; rw [if_pos hm]
  rw [e1, e2]
  exact ⟨A', c', rfl, hQ, hK, hN, .inr ⟨t, rfl, hf⟩⟩
 | false =>
  refine (take_arg h (txC_of hF) ho hm).mono ?_
  rintro e w' ⟨rfl, hb⟩
  have e1 : tl t = [] := by unfold tl; rw [if_neg (by rw [hm]; simp)]
  have e2 : tz t = 1 := by unfold tz; rw [if_neg (by rw [hm]; simp)]
  obtain ⟨hl, rfl, rfl⟩ := hs0
  rw [e1, e2]
  refine ⟨none, 0, rfl, ?_, KeepS.of_below _ hb, NewRow.refl _ _, .inl ⟨rfl, rfl, rfl⟩⟩
  rw [← hl]
  exact (h.below hb).more
theorem rtake_low {B : Nat} {W : World} {q : Nat} {s : SqS} {A : Option Addr} {c : Nat} (h : IsRq B W q s A c) (hs0 : s.l = [] ∧ A = none ∧ c = 0) {t : TxD} {A2 A3 A4 A5 : Option Addr} {c2 c3 c4 c5 : Nat} (hF : Kd.FK G.k32 W (Inn B W) t [.int .i64 t.f0, .int .i64 t.f1, .slice A2 t.f2.length c2, .slice A3 t.f3.length c3, .slice A4 t.f4.length c4, .slice A5 t.f5.length c5]) (ho : okT t = true) :
  Calls Try.prog 18 #[.pointer (some ⟨q, 0, none⟩), .agg #[.int .i64 t.f0, .int .i64 t.f1, .slice A2 t.f2.length c2, .slice A3 t.f3.length c3, .slice A4 t.f4.length c4, .slice A5 t.f5.length c5]] W fun e w' => ∃ A' c', e = .returned (.int .i64 (tz t)) ∧ IsRq B w' q { s with l := tl t } A' c' ∧ KeepS (sqS q q A) W w' ∧ NewRow W A A' ∧ Low W.heap.size w' A' c' (tl t) := by
 cases hm : mayT t with
 | true =>
  refine (rtake_own h hs0 hF ho hm).mono ?_
  rintro e w' ⟨A', c', rfl, hQ, hK, hN, hf⟩
  have e1 : tl t = [t] := by unfold tl; rw [if_pos hm]
  have e2 : tz t = 0 := by unfold tz; rw [if_pos hm]
  rw [e1, e2]
  exact ⟨A', c', rfl, hQ, hK, hN, .inr ⟨t, rfl, hf⟩⟩
 | false =>
  refine (rtake_nob h hF ho hm).mono ?_
  rintro e w' ⟨rfl, hb⟩
  have e1 : tl t = [] := by unfold tl; rw [if_neg (by rw [hm]; simp)]
  have e2 : tz t = 1 := by unfold tz; rw [if_neg (by rw [hm]; simp)]
  obtain ⟨hl, rfl, rfl⟩ := hs0
  rw [e1, e2]
  refine ⟨none, 0, rfl, ?_, KeepS.of_below _ hb, NewRow.refl _ _, .inl ⟨rfl, rfl, rfl⟩⟩
  rw [← hl]
  exact h.below hb
end Go.Proofs.Ytgmlpmdfkaadhaa.M
end

section
/- What 'spoil' may do: blocks from base on keep what leads on, and their kinds of ints; rows of which that alone is known. -/
namespace Go.Proofs.Ytgmlpmdfkaadhaa.M
open Go.RowKit Go.Proofs.YtgmlpmdfkaadhaaW.PrintWords Go.Proofs.YtgmlpmdfkaadhaaW.PrintLast Go.Proofs.YtgmlpmdfkaadhaaW.PrintMore Go.Proofs.Ytgmlpmdfkaadhaa.G
structure Sp (base : Nat) (w W : World) : Prop where
 b : Below base w W
 c : ∀ (g j : Nat) (v : Value), base ≤ g → w.cell? ⟨g, j, none⟩ = some v → W.cell? ⟨g, j, none⟩ = some v ∨ ∃ k x y, v = .int k x ∧ W.cell? ⟨g, j, none⟩ = some (.int k y)
 f : ∀ g j : Nat, base ≤ g → (w.cell? ⟨g, j, none⟩).isSome = true → w.frozen? ⟨g, j, none⟩ = false → W.frozen? ⟨g, j, none⟩ = false
theorem Sp.refl (base : Nat) (w : World) : Sp base w w := ⟨Below.refl _ _, fun _ _ _ _ h => .inl h, fun _ _ _ _ h => h⟩
theorem Sp.trans {base : Nat} {w W V : World} (h : Sp base w W) (k : Sp base W V) : Sp base w V where
 b := h.b.trans k.b
 c g j v hg hv := by
  rcases h.c g j v hg hv with h1 | ⟨q, x, y, rfl, h1⟩
  ·exact k.c g j v hg h1
  ·rcases k.c g j _ hg h1 with h2 | ⟨q', x', y', h3, h2⟩
   ·exact .inr ⟨q, x, y, rfl, h2⟩
   ·injection h3 with h4 h5
    subst h4
    exact .inr ⟨q, x, y', rfl, h2⟩
 f g j hg hs hf := k.f g j hg (by
  obtain ⟨v, hv⟩ := Option.isSome_iff_exists.1 hs
  rcases h.c g j v hg hv with h1 | ⟨q, x, y, rfl, h1⟩ <;> simp [h1]) (h.f g j hg hs hf)
theorem Sp.alloc (base : Nat) (w : World) (o : Obj) (hb : base ≤ w.heap.size) : Sp base w (w.alloc o) where
 b := below_alloc' hb o
 c g j v hg hv := .inl (by rw [World.cell?_alloc_some w _ o (by rw [hv]; rfl)]; exact hv)
 f g j hg hs hf := by
  obtain ⟨v, hv⟩ := Option.isSome_iff_exists.1 hs
  have hlt := World.block_lt_of_cell? w _ hv
  rw [frozen_alloc w o hlt]
  exact hf
where
 below_alloc' {base : Nat} {w : World} (hb : base ≤ w.heap.size) (o : Obj) : Below base w (w.alloc o) := (Below.refl base w).alloc hb o
 frozen_alloc (w : World) (o : Obj) {g j : Nat} (h : g < w.heap.size) : (w.alloc o).frozen? ⟨g, j, none⟩ = w.frozen? ⟨g, j, none⟩ := by
  unfold World.frozen?
  rw [((Below.refl w.heap.size w).alloc (Nat.le_refl _) o).block g h]
theorem Sp.put {base : Nat} {w : World} {g j : Nat} {k : IntKind} {x : Int} (hg : base ≤ g) (hc : w.cell? ⟨g, j, none⟩ = some (.int k x)) (y : Int) : Sp base w (w.setCell ⟨g, j, none⟩ (.int k y)) where
 b := (Below.refl base w).setCell hg _
 c g' j' v hg' hv := by
  by_cases h : (⟨g, j, none⟩ : Addr) = ⟨g', j', none⟩
  ·rw [← h] at hv ⊢
   rw [hc] at hv
   injection hv with hv
   subst hv
   exact .inr ⟨k, x, y, rfl, World.cell?_setCell_same' w _ _ (by rw [hc]; rfl)⟩
  ·exact .inl (by rw [World.cell?_setCell_other w _ _ _ h]; exact hv)
 f g' j' hg' hs hf := by
  rw [World.frozen?_setCell]
  exact hf
theorem Sp.below {base : Nat} {w W : World} (hb : Below w.heap.size w W) (h : base ≤ w.heap.size) : Sp base w W where
 b := hb.mono h
 c g j v hg hv := .inl ((hb.cell (World.block_lt_of_cell? w _ hv)).trans hv)
 f g j hg hs hf := by
  obtain ⟨v, hv⟩ := Option.isSome_iff_exists.1 hs
  have hlt := World.block_lt_of_cell? w _ hv
  unfold World.frozen? at hf ⊢
  rw [hb.block g hlt]
  exact hf
structure Ints (k : IntKind) (base : Nat) (W : World) (A : Option Addr) (n : Nat) : Prop where
 m : n ≤ 9223372036854775807
 at_ : ∀ j, j < n → ∃ g, A = some ⟨g, 0, none⟩ ∧ base ≤ g ∧ (∃ x, W.cell? ⟨g, j, none⟩ = some (.int k x)) ∧ W.frozen? ⟨g, j, none⟩ = false
structure Keys (base : Nat) (W : World) (A : Option Addr) (n : Nat) : Prop where
 m : n ≤ 9223372036854775807
 at_ : ∀ j, j < n → ∃ g, A = some ⟨g, 0, none⟩ ∧ base ≤ g ∧ (∃ x, W.cell? ⟨g, j * 2 + 1, none⟩ = some (.int .i64 x)) ∧ W.frozen? ⟨g, j * 2 + 1, none⟩ = false
def TxO (base : Nat) (W : World) (g o : Nat) : Prop := ∃ (x0 x1 : Int) (A2 A3 A4 A5 : Option Addr) (n2 n3 n4 n5 c2 c3 c4 c5 : Nat),
 W.cell? ⟨g, o, none⟩ = some (.int .i64 x0) ∧ W.cell? ⟨g, o + 1, none⟩ = some (.int .i64 x1) ∧ W.cell? ⟨g, o + 2, none⟩ = some (.slice A2 n2 c2) ∧ W.cell? ⟨g, o + 3, none⟩ = some (.slice A3 n3 c3) ∧ W.cell? ⟨g, o + 4, none⟩ = some (.slice A4 n4 c4) ∧ W.cell? ⟨g, o + 5, none⟩ = some (.slice A5 n5 c5) ∧
 W.frozen? ⟨g, o, none⟩ = false ∧ Ints .u8 base W A2 n2 ∧ Ints .i64 base W A3 n3 ∧ Keys base W A4 n4 ∧ Keys base W A5 n5
structure Txs (base : Nat) (W : World) (A : Option Addr) (n : Nat) : Prop where
 m : n ≤ 9223372036854775807
 at_ : ∀ j, j < n → ∃ g, A = some ⟨g, 0, none⟩ ∧ base ≤ g ∧ TxO base W g (j * 6)
section
variable {base : Nat} {w W : World}
theorem Sp.int {g j : Nat} {k : IntKind} (h : Sp base w W) (hg : base ≤ g) (hc : ∃ x, w.cell? ⟨g, j, none⟩ = some (.int k x)) : ∃ x, W.cell? ⟨g, j, none⟩ = some (.int k x) := by
 obtain ⟨x, hx⟩ := hc
 rcases h.c g j _ hg hx with h1 | ⟨q, a, b, h2, h1⟩
 ·exact ⟨x, h1⟩
 ·injection h2 with h3 h4
  subst h3
  exact ⟨b, h1⟩
theorem Sp.slice {g j : Nat} {A : Option Addr} {n c : Nat} (h : Sp base w W) (hg : base ≤ g) (hc : w.cell? ⟨g, j, none⟩ = some (.slice A n c)) : W.cell? ⟨g, j, none⟩ = some (.slice A n c) := by
 rcases h.c g j _ hg hc with h1 | ⟨q, a, b, h2, h1⟩
 ·exact h1
 ·cases h2
theorem Ints.step {k : IntKind} {A : Option Addr} {n : Nat} (h : Ints k base w A n) (s : Sp base w W) : Ints k base W A n :=
 ⟨h.m, fun j hj => by
  obtain ⟨g, rfl, hg, hx, hf⟩ := h.at_ j hj
  refine ⟨g, rfl, hg, s.int hg hx, s.f g j hg ?_ hf⟩
  obtain ⟨x, hx⟩ := hx
  rw [hx]; rfl⟩
theorem Keys.step {A : Option Addr} {n : Nat} (h : Keys base w A n) (s : Sp base w W) : Keys base W A n :=
 ⟨h.m, fun j hj => by
  obtain ⟨g, rfl, hg, hx, hf⟩ := h.at_ j hj
  refine ⟨g, rfl, hg, s.int hg hx, s.f g _ hg ?_ hf⟩
  obtain ⟨x, hx⟩ := hx
  rw [hx]; rfl⟩
theorem TxO.step {g o : Nat} (h : TxO base w g o) (hg : base ≤ g) (s : Sp base w W) : TxO base W g o := by
 obtain ⟨x0, x1, A2, A3, A4, A5, n2, n3, n4, n5, c2, c3, c4, c5, h0, h1, h2, h3, h4, h5, hf, i2, i3, i4, i5⟩ := h
 obtain ⟨y0, e0⟩ := s.int hg ⟨x0, h0⟩
 obtain ⟨y1, e1⟩ := s.int hg ⟨x1, h1⟩
 exact ⟨y0, y1, A2, A3, A4, A5, n2, n3, n4, n5, c2, c3, c4, c5, e0, e1, s.slice hg h2, s.slice hg h3, s.slice hg h4, s.slice hg h5, s.f g o hg (by rw [h0]; rfl) hf, i2.step s, i3.step s, i4.step s, i5.step s⟩
theorem Txs.step {A : Option Addr} {n : Nat} (h : Txs base w A n) (s : Sp base w W) : Txs base W A n :=
 ⟨h.m, fun j hj => by
  obtain ⟨g, rfl, hg, hx⟩ := h.at_ j hj
  exact ⟨g, rfl, hg, hx.step hg s⟩⟩
theorem Ints.of {k : IntKind} {e b : Nat} {ok : Nat → Prop} {A : Option Addr} {n c : Nat} {xs : List Int} (h : Kd.R (Kd.int k) e w b ok (.slice A n c) xs) (hb : base ≤ b) : Ints k base w A n := by
 obtain rfl := (Kd.R_reads' h).1
 refine ⟨Kd.C_max (Kd.R_reads' h).2.2, fun j hj => ?_⟩
 obtain ⟨g, cap, hv, hg, _⟩ := Kd.R_form h (by omega)
 injection hv with h1 h2 h3
 subst h1
 obtain ⟨cs, hl, hM, hc, hf⟩ := Kd.R_elem h 0 (j : Int) (by omega) (by omega)
 have hM' : cs = [.int k (xs.getD (j : Int).toNat 0)] := hM
 rw [Int.toNat_natCast] at hc hf
 have hs : (Kd.int k).sz = 1 := rfl
 rw [hs] at hc hf
 refine ⟨g, rfl, Nat.le_trans hb hg, ⟨_, by have := hc 0 _ (by rw [hM']; rfl); rwa [Nat.mul_one, Nat.add_zero] at this⟩, by have := hf 0; rwa [Nat.mul_one, Nat.add_zero] at this⟩
theorem Keys.of {e b : Nat} {ok : Nat → Prop} {A : Option Addr} {n c : Nat} {xs : List KeyD} (h : Kd.R G.k54 e w b ok (.slice A n c) xs) (hb : base ≤ b) : Keys base w A n := by
 obtain rfl := (Kd.R_reads' h).1
 refine ⟨Kd.C_max (Kd.R_reads' h).2.2, fun j hj => ?_⟩
 obtain ⟨g, cap, hv, hg, _⟩ := Kd.R_form h (by omega)
 injection hv with h1 h2 h3
 subst h1
 obtain ⟨cs, hl, hM, hc, hf⟩ := Kd.R_elem h ⟨0, 0⟩ (j : Int) (by omega) (by omega)
 obtain ⟨_, _, rfl, rfl, rfl⟩ := hM
 rw [Int.toNat_natCast] at hc hf
 have hs : (G.k54).sz = 2 := rfl
 rw [hs] at hc hf
 exact ⟨g, rfl, Nat.le_trans hb hg, ⟨_, hc 1 _ rfl⟩, hf 1⟩
theorem TxO.of {ok : Nat → Prop} {b g o : Nat} {x : TxD} {cs : List Value} (h : Kd.M G.k32 w b ok x cs) (hb : base ≤ b) (hc : ∀ j u, cs[j]? = some u → w.cell? ⟨g, o + j, none⟩ = some u) (hf : w.frozen? ⟨g, o, none⟩ = false) : TxO base w g o := by
 obtain ⟨v2, v3, v4, v5, rfl, r2, r3, r4, r5⟩ := G.k32_openM h
 obtain ⟨A2, c2, rfl⟩ := Kd.R_slice r2
 obtain ⟨A3, c3, rfl⟩ := Kd.R_slice r3
 obtain ⟨A4, c4, rfl⟩ := Kd.R_slice r4
 obtain ⟨A5, c5, rfl⟩ := Kd.R_slice r5
 exact ⟨_, _, A2, A3, A4, A5, _, _, _, _, c2, c3, c4, c5, hc 0 _ rfl, hc 1 _ rfl, hc 2 _ rfl, hc 3 _ rfl, hc 4 _ rfl, hc 5 _ rfl, hf, Ints.of r2 hb, Ints.of r3 hb, Keys.of r4 hb, Keys.of r5 hb⟩
theorem Txs.of {e b : Nat} {ok : Nat → Prop} {A : Option Addr} {n c : Nat} {xs : List TxD} (h : Kd.R G.k32 e w b ok (.slice A n c) xs) (hb : base ≤ b) : Txs base w A n := by
 obtain rfl := (Kd.R_reads' h).1
 refine ⟨Kd.C_max (Kd.R_reads' h).2.2, fun j hj => ?_⟩
 obtain ⟨g, cap, hv, hg, _⟩ := Kd.R_form h (by omega)
 injection hv with h1 h2 h3
 subst h1
 obtain ⟨cs, hl, hM, hc, hf⟩ := Kd.R_elem h ⟨0, 0, [], [], [], []⟩ (j : Int) (by omega) (by omega)
 rw [Int.toNat_natCast] at hc hf
 have hs : (G.k32).sz = 6 := rfl
 rw [hs] at hc hf
 exact ⟨g, rfl, Nat.le_trans hb hg, TxO.of hM hb hc (by have := hf 0; rwa [Nat.add_zero] at this)⟩
end
end Go.Proofs.Ytgmlpmdfkaadhaa.M
end

section
/- A range over a function whose values are made as it goes: what is handed to a round is known to be well in that round's world (V). -/
namespace Go.Proofs.Ytgmlpmdfkaadhaa.M
open Go.RowKit Go.Shelf Go.Proofs.YtgmlpmdfkaadhaaW.PrintWords
variable {α : Type} {F : Fence} {n : Nat} {P : Program}
def SeqV (F : Fence) (n : Nat) (P : Program) (g : Nat) (lb : Array Value) (encs : α → Array Value) (V : α → World → Prop) (S : List α → Prop) (N : Nat) (w : World) : Prop :=
 ∀ (l : Nat) (J : List α → World → Prop) (W : World), Below w.heap.size w W → (∀ s X Y, J s X → Below X.heap.size X Y → J s Y) →
  (∀ pre x W1, J pre W1 → V x W1 → Below w.heap.size w W1 → pre.length < N → YieldAt F (n - 1) P l (encs x) W1 fun e W' => e = .returned (.bool true) ∧ J (pre ++ [x]) W' ∧ Below w.heap.size W1 W') →
  J [] W → CallsIn F n P g (#[.func (.yield l) #[] #[]] ++ lb) W fun e W' => (∃ v, e = .returned v) ∧ ∃ xs, S xs ∧ J xs W'
theorem keepS_putObj {S : Nat → Prop} {W : World} {k : Nat} (o : Obj) (hk : S k) : KeepS S W (W.putObj k o) :=
 ⟨rfl, rfl, rfl, by rw [World.putObj_size]; exact Nat.le_refl _, fun i _ hi => World.putObj_heap_other (fun e => hi (e ▸ hk))⟩
def BodyV (D B0 : Nat) (I : List α → World → Prop) (xs : List α) (W2 : World) (e : Exit) (_ : Act) (W3 : World) : Prop :=
 e = .normal ∧ (∀ k, k = D ∨ k = D + 1 → W3.heap[k]? = W2.heap[k]?) ∧ Below B0 W2 W3 ∧ I xs W3
theorem range_V {g : Operand} {ps : Array Tmp} {assign body : Code} {Q : Exit → Act → World → Prop} {a : Act} {w w0 : World} (hro : F.round = none) (h1 : 1 ≤ n) {gf : Nat} {lb : Array Value} (hg : a.eval g = .func (.func gf) #[] lb) (hFg : F.fn gf) (eg : ∀ args w, (callFunc gf args).run P w = .ok (.enter gf args) w)
  {encs : α → Array Value} {V : α → World → Prop} {S : List α → Prop} {N : Nat} (hseq : SeqV F (n - 1) P gf lb encs V S N w0) (hb0 : Below w0.heap.size w0 w) (hps : ∀ x, (encs x).size = ps.size)
  (I : List α → World → Prop) (hIb : ∀ s X Y, I s X → Below X.heap.size X Y → I s Y) (hIo : ∀ s X o o', I s X → X.heap[w.heap.size + 1]? = some o → o.isCells = false → I s (X.putObj (w.heap.size + 1) o')) (hVb : ∀ x X Y, V x X → Below X.heap.size X Y → V x Y) (hVo : ∀ x X o o', V x X → X.heap[w.heap.size + 1]? = some o → o.isCells = false → V x (X.putObj (w.heap.size + 1) o')) (h0 : I [] w)
  (hround : ∀ (pre : List α) (x : α) (W : World), I pre W → V x W → Below w0.heap.size w0 W → pre.length < N → w.heap.size + 1 < W.heap.size → ∀ K : Act → World → Prop,
   (∀ a1 W1, Below W.heap.size W W1 → (∀ W2, KeepS (fun k => k = w.heap.size + 1) W1 W2 → I pre W2 → V x W2 → body.wpIn (F.inRound (w.heap.size + 1)) (n - 1 - 1) P (BodyV w.heap.size w0.heap.size I (pre ++ [x]) W2) a1 W2) → K a1 W1) →
   assign.wpIn (F.inRound (w.heap.size + 1)) (n - 1 - 1) P (Exit.then K (fun _ _ _ => False)) { tmps := (ps.zip (encs x)).foldl (fun t (p, v) => t.setIfInBounds p v) a.tmps, defers := [] } W)
  (hdone : ∀ (xs : List α) (W : World), S xs → I xs W → W.heap[w.heap.size]? = some (.deferred (some [])) → Q .normal { a with defers := { target := .collected w.heap.size, args := #[] } :: a.defers } W) :
  (Code.rangeFunc g ps assign body).wpIn F n P Q a w := by
 refine wpIn_rangeFunc ?_
 intro fn hfn
 rw [hro]
 obtain ⟨D, hD⟩ : ∃ D, w.heap.size = D := ⟨_, rfl⟩
 obtain ⟨rec, hrec⟩ : ∃ rec : LoopState → Loop, rec = fun st => { state := st, pending := none, fn, tmps := a.tmps, params := ps, assign, body, defers := D } := ⟨_, rfl⟩
 have hen := run_enterLoop_outer (P := P) (w := w) fn a.tmps ps assign body
 obtain ⟨W1, hW1⟩ : ∃ W1, (w.alloc (.deferred (some []))).alloc (.loop { state := .ready, pending := none, fn, tmps := a.tmps, params := ps, assign, body, defers := w.heap.size }) = W1 := ⟨_, rfl⟩
 rw [hW1] at hen
 have hz : (w.alloc (.deferred (some []))).heap.size = D + 1 := by rw [World.size_alloc, hD]
 have hL : W1.heap[D + 1]? = some (.loop (rec .ready)) := by rw [← hW1, ← hz, hrec, ← hD]; exact World.alloc_heap_new _ _
 have hK : W1.heap[D]? = some (.deferred (some [])) := by
  rw [← hW1]
  exact (Below.heap_alloc _ _ D (by omega)).trans (hD ▸ World.alloc_heap_new w _)
 have hb1 : Below w.heap.size w W1 := by rw [← hW1]; exact ((Below.refl _ w).alloc (Nat.le_refl _) _).alloc (by omega) _
 have hkI : ∀ {s X Y}, I s X → Below X.heap.size X Y → I s Y := fun h hb => hIb _ _ _ h hb
 refine ⟨_, _, W1, { target := .fn (.func gf) lb, args := #[.func (.yield (D + 1)) #[] #[]] }, W1, gf, #[.func (.yield (D + 1)) #[] #[]] ++ lb, W1, hen, ?_, ?_, ?_, fun _ => h1, ?_⟩
 ·rw [hD]
  simp only [resolve, hg]
  simp [go_sem]
 ·intro f' hf'
  simp [Target.leads] at hf'
  subst hf'
  exact hFg
 ·simp [invoke, go_sem, eg]
 ·refine (hseq (D + 1) (fun pre W => I pre W ∧ W.heap[D + 1]? = some (.loop (rec .ready)) ∧ W.heap[D]? = some (.deferred (some []))) W1 (hb0.trans (hb1.mono hb0.size))
   (fun s X Y hs hb => ⟨hkI hs.1 hb, (hb.block _ (Array.getElem?_eq_some_iff.1 hs.2.1).1).trans hs.2.1, (hb.block _ (Array.getElem?_eq_some_iff.1 hs.2.2).1).trans hs.2.2⟩) ?_ ⟨hkI h0 hb1, hL, hK⟩).mono ?_
  ·rintro pre x W ⟨hi, hl, hk⟩ hv hb2 hlen
   have hlt := (Array.getElem?_eq_some_iff.1 hl).1
   have hlw : D = w.heap.size := hD.symm
   have hw0 : w0.heap.size ≤ D := hD ▸ hb0.size
   have hy := run_yield (P := P) (args := encs x) hl (by rw [hrec]; exact hps x)
   rw [hrec] at hy
   refine ⟨fn, _, assign, body, hy, roundIn_of_wpIn hfn ?_⟩
   clear hy
   subst hlw
   refine hround pre x W hi hv hb2 hlen hlt _ ?_
   intro a1 Wa hba hbody
   have hl1 := (hba.block _ hlt).trans hl
   have hk1 := (hba.block _ (by omega)).trans hk
   refine ⟨_, run_beginRound hl1 (by rw [hrec]), ?_⟩
   have hlta := (Array.getElem?_eq_some_iff.1 hl1).1
   refine wpIn_mono (hbody _ (keepS_putObj _ rfl) (hIo _ _ _ _ (hkI hi hba) hl1 rfl) (hVo _ _ _ _ (hVb _ _ _ hv hba) hl1 rfl)) ?_
   rintro e a3 W3 ⟨rfl, hs, hb3, hi3⟩
   have hl3 := (hs _ (.inr rfl)).trans (World.putObj_heap_same hlta)
   have hk3 := (hs _ (.inl rfl)).trans ((World.putObj_heap_other (by omega)).trans hk1)
   have hlt3 := (Array.getElem?_eq_some_iff.1 hl3).1
   refine ⟨_, _, run_endRound none hl3, rfl, ⟨?_, ?_, ?_⟩, ?_⟩
   ·exact hIo _ _ _ _ hi3 hl3 rfl
   ·rw [World.putObj_heap_same hlt3, hrec]
    rfl
   ·exact (World.putObj_heap_other (by omega)).trans hk3
   ·refine (hba.mono (by omega)).trans ?_
    refine (KeepS.below (S := fun k => k = w.heap.size + 1) (keepS_putObj _ rfl) (by omega) (fun i e => by omega)).trans (hb3.trans ?_)
    exact KeepS.below (S := fun k => k = w.heap.size + 1) (keepS_putObj _ rfl) (by omega) (fun i e => by omega)
  ·rintro e W2 ⟨⟨v, rfl⟩, xs, hS, hi, hl, hk⟩
   rw [hD]
   refine ⟨none, _, by have := run_endLoop (P := P) hl (by rw [hrec]; simp); rw [hrec] at this; exact this, ?_⟩
   have := hdone xs (W2.putObj (D + 1) (.loop { rec .ready with state := .exhausted })) hS (by have := hIo xs W2 _ (.loop { rec .ready with state := .exhausted }) hi (by rw [hD]; exact hl) rfl; rw [hD] at this; exact this) (by rw [hD]; exact (World.putObj_heap_other (by omega)).trans hk)
   rw [hD, hrec] at this
   exact this
end Go.Proofs.Ytgmlpmdfkaadhaa.M
end

section
/- As range_V; a round knows besides that the loop's own two blocks are no cells. -/
namespace Go.Proofs.Ytgmlpmdfkaadhaa.M
open Go.RowKit Go.Shelf Go.Proofs.YtgmlpmdfkaadhaaW.PrintWords
variable {α : Type} {F : Fence} {n : Nat} {P : Program}
theorem range_W {g : Operand} {ps : Array Tmp} {assign body : Code} {Q : Exit → Act → World → Prop} {a : Act} {w w0 : World} (hro : F.round = none) (h1 : 1 ≤ n) {gf : Nat} {lb : Array Value} (hg : a.eval g = .func (.func gf) #[] lb) (hFg : F.fn gf) (eg : ∀ args w, (callFunc gf args).run P w = .ok (.enter gf args) w)
  {encs : α → Array Value} {V : α → World → Prop} {S : List α → Prop} {N : Nat} (hseq : SeqV F (n - 1) P gf lb encs V S N w0) (hb0 : Below w0.heap.size w0 w) (hps : ∀ x, (encs x).size = ps.size)
  (I : List α → World → Prop) (hIb : ∀ s X Y, I s X → Below X.heap.size X Y → I s Y) (hIo : ∀ s X o o', I s X → X.heap[w.heap.size + 1]? = some o → o.isCells = false → I s (X.putObj (w.heap.size + 1) o')) (hVb : ∀ x X Y, V x X → Below X.heap.size X Y → V x Y) (hVo : ∀ x X o o', V x X → X.heap[w.heap.size + 1]? = some o → o.isCells = false → V x (X.putObj (w.heap.size + 1) o')) (h0 : I [] w)
  (hround : ∀ (pre : List α) (x : α) (W : World), I pre W → V x W → Below w0.heap.size w0 W → pre.length < N → w.heap.size + 1 < W.heap.size → ∀ K : Act → World → Prop,
   (∀ a1 W1, Below W.heap.size W W1 → (∀ W2, KeepS (fun k => k = w.heap.size + 1) W1 W2 → I pre W2 → V x W2 → W2.heap[w.heap.size]? = some (.deferred (some [])) → (∃ o, W2.heap[w.heap.size + 1]? = some o ∧ o.isCells = false) → body.wpIn (F.inRound (w.heap.size + 1)) (n - 1 - 1) P (BodyV w.heap.size w0.heap.size I (pre ++ [x]) W2) a1 W2) → K a1 W1) →
   assign.wpIn (F.inRound (w.heap.size + 1)) (n - 1 - 1) P (Exit.then K (fun _ _ _ => False)) { tmps := (ps.zip (encs x)).foldl (fun t (p, v) => t.setIfInBounds p v) a.tmps, defers := [] } W)
  (hdone : ∀ (xs : List α) (W : World), S xs → I xs W → W.heap[w.heap.size]? = some (.deferred (some [])) → Q .normal { a with defers := { target := .collected w.heap.size, args := #[] } :: a.defers } W) :
  (Code.rangeFunc g ps assign body).wpIn F n P Q a w := by
 refine wpIn_rangeFunc ?_
 intro fn hfn
 rw [hro]
 obtain ⟨D, hD⟩ : ∃ D, w.heap.size = D := ⟨_, rfl⟩
 obtain ⟨rec, hrec⟩ : ∃ rec : LoopState → Loop, rec = fun st => { state := st, pending := none, fn, tmps := a.tmps, params := ps, assign, body, defers := D } := ⟨_, rfl⟩
 have hen := run_enterLoop_outer (P := P) (w := w) fn a.tmps ps assign body
 obtain ⟨W1, hW1⟩ : ∃ W1, (w.alloc (.deferred (some []))).alloc (.loop { state := .ready, pending := none, fn, tmps := a.tmps, params := ps, assign, body, defers := w.heap.size }) = W1 := ⟨_, rfl⟩
 rw [hW1] at hen
 have hz : (w.alloc (.deferred (some []))).heap.size = D + 1 := by rw [World.size_alloc, hD]
 have hL : W1.heap[D + 1]? = some (.loop (rec .ready)) := by rw [← hW1, ← hz, hrec, ← hD]; exact World.alloc_heap_new _ _
 have hK : W1.heap[D]? = some (.deferred (some [])) := by
  rw [← hW1]
  exact (Below.heap_alloc _ _ D (by omega)).trans (hD ▸ World.alloc_heap_new w _)
 have hb1 : Below w.heap.size w W1 := by rw [← hW1]; exact ((Below.refl _ w).alloc (Nat.le_refl _) _).alloc (by omega) _
 have hkI : ∀ {s X Y}, I s X → Below X.heap.size X Y → I s Y := fun h hb => hIb _ _ _ h hb
 refine ⟨_, _, W1, { target := .fn (.func gf) lb, args := #[.func (.yield (D + 1)) #[] #[]] }, W1, gf, #[.func (.yield (D + 1)) #[] #[]] ++ lb, W1, hen, ?_, ?_, ?_, fun _ => h1, ?_⟩
 ·rw [hD]
  simp only [resolve, hg]
  simp [go_sem]
 ·intro f' hf'
  simp [Target.leads] at hf'
  subst hf'
  exact hFg
 ·simp [invoke, go_sem, eg]
 ·refine (hseq (D + 1) (fun pre W => I pre W ∧ W.heap[D + 1]? = some (.loop (rec .ready)) ∧ W.heap[D]? = some (.deferred (some []))) W1 (hb0.trans (hb1.mono hb0.size))
   (fun s X Y hs hb => ⟨hkI hs.1 hb, (hb.block _ (Array.getElem?_eq_some_iff.1 hs.2.1).1).trans hs.2.1, (hb.block _ (Array.getElem?_eq_some_iff.1 hs.2.2).1).trans hs.2.2⟩) ?_ ⟨hkI h0 hb1, hL, hK⟩).mono ?_
  ·rintro pre x W ⟨hi, hl, hk⟩ hv hb2 hlen
   have hlt := (Array.getElem?_eq_some_iff.1 hl).1
   have hlw : D = w.heap.size := hD.symm
   have hw0 : w0.heap.size ≤ D := hD ▸ hb0.size
   have hy := run_yield (P := P) (args := encs x) hl (by rw [hrec]; exact hps x)
   rw [hrec] at hy
   refine ⟨fn, _, assign, body, hy, roundIn_of_wpIn hfn ?_⟩
   clear hy
   subst hlw
   refine hround pre x W hi hv hb2 hlen hlt _ ?_
   intro a1 Wa hba hbody
   have hl1 := (hba.block _ hlt).trans hl
   have hk1 := (hba.block _ (by omega)).trans hk
   refine ⟨_, run_beginRound hl1 (by rw [hrec]), ?_⟩
   have hlta := (Array.getElem?_eq_some_iff.1 hl1).1
   refine wpIn_mono (hbody _ (keepS_putObj _ rfl) (hIo _ _ _ _ (hkI hi hba) hl1 rfl) (hVo _ _ _ _ (hVb _ _ _ hv hba) hl1 rfl) ((World.putObj_heap_other (by omega)).trans hk1) ⟨_, World.putObj_heap_same hlta, rfl⟩) ?_
   rintro e a3 W3 ⟨rfl, hs, hb3, hi3⟩
   have hl3 := (hs _ (.inr rfl)).trans (World.putObj_heap_same hlta)
   have hk3 := (hs _ (.inl rfl)).trans ((World.putObj_heap_other (by omega)).trans hk1)
   have hlt3 := (Array.getElem?_eq_some_iff.1 hl3).1
   refine ⟨_, _, run_endRound none hl3, rfl, ⟨?_, ?_, ?_⟩, ?_⟩
   ·exact hIo _ _ _ _ hi3 hl3 rfl
   ·rw [World.putObj_heap_same hlt3, hrec]
    rfl
   ·exact (World.putObj_heap_other (by omega)).trans hk3
   ·refine (hba.mono (by omega)).trans ?_
    refine (KeepS.below (S := fun k => k = w.heap.size + 1) (keepS_putObj _ rfl) (by omega) (fun i e => by omega)).trans (hb3.trans ?_)
    exact KeepS.below (S := fun k => k = w.heap.size + 1) (keepS_putObj _ rfl) (by omega) (fun i e => by omega)
  ·rintro e W2 ⟨⟨v, rfl⟩, xs, hS, hi, hl, hk⟩
   rw [hD]
   refine ⟨none, _, by have := run_endLoop (P := P) hl (by rw [hrec]; simp); rw [hrec] at this; exact this, ?_⟩
   have := hdone xs (W2.putObj (D + 1) (.loop { rec .ready with state := .exhausted })) hS (by have := hIo xs W2 _ (.loop { rec .ready with state := .exhausted }) hi (by rw [hD]; exact hl) rfl; rw [hD] at this; exact this) (by rw [hD]; exact (World.putObj_heap_other (by omega)).trans hk)
   rw [hD, hrec] at this
   exact this
end Go.Proofs.Ytgmlpmdfkaadhaa.M
end

section
/- The copy whose rows are spoilt. -/
namespace Go.Proofs.Ytgmlpmdfkaadhaa.M
open Go.RowKit Go.Shelf Go.Proofs.YtgmlpmdfkaadhaaW.PrintWords Go.Proofs.YtgmlpmdfkaadhaaW.PrintLast Go.Proofs.YtgmlpmdfkaadhaaW.PrintMore Go.Proofs.Ytgmlpmdfkaadhaa.G
theorem cells_of_cell {W : World} {g j : Nat} {v : Value} {o : Obj} (h : W.cell? ⟨g, j, none⟩ = some v) (ho : W.heap[g]? = some o) : o.isCells = true := by
 unfold World.cell? at h
 simp only [ho] at h
 cases o <;> simp_all [Obj.isCells]
theorem sqS_none {g mp k : Nat} (h : sqS g mp none k) : k = g ∨ k = mp := by
 rcases h with h | h | ⟨a, ha, _⟩
 ·exact .inl h
 ·exact .inr h
 ·cases ha
theorem Ints.keep {k : IntKind} {base : Nat} {w W : World} {A : Option Addr} {n : Nat} {S : Nat → Prop} (h : Ints k base w A n) (hk : KeepS S w W) (hS : ∀ i, S i → i < base) : Ints k base W A n :=
 ⟨h.m, fun j hj => by
  obtain ⟨g, rfl, hg, ⟨x, hx⟩, hf⟩ := h.at_ j hj
  have hb := hk.block g (World.block_lt_of_cell? _ _ hx) (fun e => by have := hS g e; omega)
  refine ⟨g, rfl, hg, ⟨x, (World.cell?_of_block (a := ⟨g, j, none⟩) hb).trans hx⟩, ?_⟩
  unfold World.frozen? at hf ⊢
  rw [hb]
  exact hf⟩
theorem mine_is {W : World} {lo : Nat} {ok : Nat → Prop} {E : Option Addr} {ce : Nat} {t : TxD} (h : Kd.R G.k32 32 W lo ok (.slice E 1 ce) [t]) :
  ∃ ga N2 n2 N3 n3 N4 n4 N5 n5, E = some ⟨ga, 0, none⟩ ∧ TxAt W ⟨ga, 0, none⟩ t N2 n2 N3 n3 N4 n4 N5 n5 ∧ Kd.FK G.k32 W (Inl lo W) t [.int .i64 t.f0, .int .i64 t.f1, .slice N2 t.f2.length n2, .slice N3 t.f3.length n3, .slice N4 t.f4.length n4, .slice N5 t.f5.length n5] ∧ Ints .u8 lo W N2 t.f2.length ∧ Ints .i64 lo W N3 t.f3.length := by
 obtain ⟨ad, N2, n2, N3, n3, N4, n4, N5, n5, hE, hA, hF⟩ := fl_row (lo' := lo) h (Nat.le_refl _)
 obtain ⟨ga, hg, _, x0, x1, B2, B3, B4, B5, m2, m3, m4, m5, d2, d3, d4, d5, e0, e1, e2, e3, e4, e5, ef, i2, i3, _, _⟩ := (Txs.of h (Nat.le_refl lo)).at_ 0 (by decide)
 rw [hE] at hg
 injection hg with hg
 subst hg
 have h2 : some (Value.slice B2 m2 d2) = some (Value.slice N2 t.f2.length n2) := e2.symm.trans hA.e2
 have h3 : some (Value.slice B3 m3 d3) = some (Value.slice N3 t.f3.length n3) := e3.symm.trans hA.e3
 injection h2 with h2
 injection h2 with h2 h2' h2''
 injection h3 with h3
 injection h3 with h3 h3' h3''
 subst h2; subst h2'; subst h3; subst h3'
 exact ⟨ga, _, n2, _, n3, N4, n4, N5, n5, hE, hA, hF, i2, i3⟩
end Go.Proofs.Ytgmlpmdfkaadhaa.M
end

section
/- Waiting: its iterator's word. -/
namespace Go.Proofs.Ytgmlpmdfkaadhaa.M
open Go.RowKit Go.Shelf Go.Proofs.YtgmlpmdfkaadhaaW.PrintWords Go.Proofs.YtgmlpmdfkaadhaaW.PrintLast Go.Proofs.YtgmlpmdfkaadhaaW.PrintMore Go.Proofs.Ytgmlpmdfkaadhaa.G
attribute [local go_sem] Oper.semAt_some
structure TxX where
 t : TxD
 A2 : Option Addr
 c2 : Nat
 A3 : Option Addr
 c3 : Nat
 A4 : Option Addr
 c4 : Nat
 A5 : Option Addr
 c5 : Nat
def TxX.cs (x : TxX) : Array Value := #[.int .i64 x.t.f0, .int .i64 x.t.f1, .slice x.A2 x.t.f2.length x.c2, .slice x.A3 x.t.f3.length x.c3, .slice x.A4 x.t.f4.length x.c4, .slice x.A5 x.t.f5.length x.c5]
def encX (x : TxX) : Array Value := #[.agg #[.int .i64 x.t.f0, .int .i64 x.t.f1, .slice x.A2 x.t.f2.length x.c2, .slice x.A3 x.t.f3.length x.c3, .slice x.A4 x.t.f4.length x.c4, .slice x.A5 x.t.f5.length x.c5]]
def VX (lo : Nat) (x : TxX) (W : World) : Prop := Kd.R (Kd.int .u8) 5 W lo (fun _ => True) (.slice x.A2 x.t.f2.length x.c2) x.t.f2 ∧ Kd.R (Kd.int .i64) 2 W lo (fun _ => True) (.slice x.A3 x.t.f3.length x.c3) x.t.f3 ∧
 Kd.R G.k54 54 W lo (fun k => some k ≠ (Value.slice x.A5 x.t.f5.length x.c5).ownBlock) (.slice x.A4 x.t.f4.length x.c4) x.t.f4 ∧ Kd.R G.k54 54 W lo (fun k => some k ≠ (Value.slice x.A4 x.t.f4.length x.c4).ownBlock) (.slice x.A5 x.t.f5.length x.c5) x.t.f5
theorem VX.below {lo : Nat} {x : TxX} {W W' : World} (h : VX lo x W) (hb : Below W.heap.size W W') : VX lo x W' :=
 ⟨Kd.R_below h.1 hb, Kd.R_below h.2.1 hb, Kd.R_below h.2.2.1 hb, Kd.R_below h.2.2.2 hb⟩
theorem VX.of {w w' : World} {t : TxD} {e : Ending} {lo : Nat} (h : TxNew w t e w') (hlo : lo ≤ w.heap.size) : ∃ x : TxX, x.t = t ∧ e = .returned (.agg x.cs) ∧ VX lo x w' ∧ Below w.heap.size w w' := by
 obtain ⟨v2, v3, v4, v5, he, h2, h3, h4, h5, hb⟩ := h
 obtain ⟨N2, c2, rfl⟩ := Kd.R_slice h2
 obtain ⟨N3, c3, rfl⟩ := Kd.R_slice h3
 obtain ⟨N4, c4, rfl⟩ := Kd.R_slice h4
 obtain ⟨N5, c5, rfl⟩ := Kd.R_slice h5
 exact ⟨⟨t, N2, c2, N3, c3, N4, c4, N5, c5⟩, rfl, he, ⟨Kd.R_lower h2 hlo, Kd.R_lower h3 hlo, Kd.R_lower h4 hlo, Kd.R_lower h5 hlo⟩, hb⟩
theorem take_snocX {α : Type} {l : List α} {k : Nat} {x : α} (h : l[k]? = some x) : l.take k ++ [x] = l.take (k + 1) := by
 rw [List.take_add_one, h]; rfl
set_option maxHeartbeats 4000000 in
theorem wait1_seq {B : Nat} {w : World} {lb : Nat} {A : Option Addr} {c : Nat} {l : List TxD} (hb0 : w.cell? ⟨lb, 0, none⟩ = some (.slice A l.length c)) (hT : TR B w (.slice A l.length c) l) (ha : ∀ t ∈ l, mayT t = true) :
  SeqV Fence.wide 3 Try.prog 37 #[.pointer (some ⟨lb, 0, none⟩)] encX (VX w.heap.size) (fun xs => xs.map (·.t) = l) l.length w := by
 intro ly J W hW hJ hY h0
 have hlm : l.length ≤ 9223372036854775807 := (hT.reads.2.2).2.1
 have hlb : lb < w.heap.size := World.block_lt_of_cell? _ _ hb0
 have hl0 : W.cell? ⟨lb, 0, none⟩ = some (.slice A l.length c) := (hW.cell (p := ⟨lb, 0, none⟩) hlb).trans hb0
 have HT := Lib.hid hT; have HA := Lib.hid ha; have HW := Lib.hid hW; have HJ := Lib.hid hJ; have HY := Lib.hid hY; have H0 := Lib.hid h0
 clear hT ha hW hb0 hJ hY h0
 refine callsIn_of_wp Try.func37 rfl trivial ?_ rfl
 simp only [Try.ntmps37, List.size_toArray, List.length_cons, List.length_nil, Nat.reduceAdd, Nat.reduceSub, Array.replicate_succ, Array.replicate_zero, List.push_toArray, List.append_toArray, List.nil_append, List.cons_append]
 gi_wp2
 gi_loopw [7] (fun i wr => ∃ (k : Nat) (pre : List TxX), k ≤ l.length ∧ i = .int .i64 (k : Int) ∧ Aside0 (pre.map (·.t) = l.take k ∧ J pre wr ∧ Below w.heap.size w wr)) (fun i _ => l.length - (intOf i).toNat)
 case atStart => exact ⟨0, [], Nat.zero_le _, rfl, ⟨by simp, H0.out, HW.out⟩⟩
 case round =>
  obtain ⟨k, pre, hk, rfl, HR⟩ := hrel
  by_cases hlt : k < l.length
  ·obtain ⟨t, ht⟩ : ∃ t, l[k]? = some t := ⟨_, List.getElem?_eq_getElem hlt⟩
   obtain ⟨ad, A2, c2, A3, c3, A4, c4, A5, c5, hAd, ⟨x0, x1, x2, x3, x4, x5⟩, hX⟩ := tx_get (HT.out.below HR.out.2.2).reads.2.2 ht
   have HX := Lib.hid hX
   have HTK := Lib.hid ht
   have HM := Lib.hid (smT_of (HA.out t (List.mem_of_getElem? ht)))
   have HLT := Lib.hid hlt
   have q1 : decide (k < l.length) = true := decide_eq_true hlt
   subst hAd
   clear ht hX hlt
   gi_wp2_with fail
   have hb1 := (Below.refl wr.heap.size wr).alloc (Nat.le_refl _) (.cells #[.int .i64 t.f0, .int .i64 t.f1, .slice A2 t.f2.length c2, .slice A3 t.f3.length c3, .slice A4 t.f4.length c4, .slice A5 t.f5.length c5] 32)
   refine ⟨trivial, (callsIn_wide.2 (cloneTx_is t (HX.out.below hb1) HM.out)).mono ?_⟩
   intro e w2 hT2
   have HB1 := Lib.hid hb1
   obtain ⟨x, rfl, rfl, hv, hb2⟩ := VX.of (lo := w.heap.size) hT2 (Nat.le_trans HR.out.2.2.size hb1.size)
   have HBW := Lib.hid (HR.out.2.2.trans ((HB1.out.trans (hb2.mono HB1.out.size)).mono HR.out.2.2.size))
   obtain ⟨fn, tmps, assign, body, hy, hR⟩ := HY.out pre x w2 (HJ.out _ _ _ (HJ.out _ _ _ HR.out.2.1 hb1) hb2) hv HBW.out (by have h1 := congrArg List.length HR.out.1; rw [List.length_map, List.length_take] at h1; have := HLT.out; omega)
   simp only [encX] at hy
   simp only [TxX.cs]
   clear hT2 hb1 hv hb2
   gi_wp2_with fail
   refine hR.mono ?_
   rintro e W3 ⟨rfl, hJ3, hk3⟩
   have HJ3 := Lib.hid hJ3; have HK3 := Lib.hid (HBW.out.trans hk3)
   clear hJ3 hk3 hR hy
   gi_wp2_with fail
   go_roundw
   case rel => exact ⟨k + 1, pre ++ [x], HLT.out, by go_num, ⟨by rw [List.map_append, HR.out.1, ← take_snocX HTK.out]; rfl, HJ3.out, HK3.out⟩⟩
   case measure => have := HLT.out; simp [intOf]; omega
  ·obtain rfl : k = l.length := by omega
   have q1 : decide (l.length < l.length) = false := decide_eq_false hlt
   gi_wp2
   go_end0
   exact ⟨⟨_, rfl⟩, _, by rw [HR.out.1, List.take_length], HR.out.2.1⟩
end Go.Proofs.Ytgmlpmdfkaadhaa.M
end

section
/- slices.Collect of what waits. -/
namespace Go.Proofs.Ytgmlpmdfkaadhaa.M
open Go.RowKit Go.Shelf Go.Proofs.YtgmlpmdfkaadhaaW.PrintWords Go.Proofs.YtgmlpmdfkaadhaaW.PrintLast Go.Proofs.YtgmlpmdfkaadhaaW.PrintMore Go.Proofs.Ytgmlpmdfkaadhaa.G
attribute [local go_sem] Oper.semAt_some
section
variable {B : Nat} {X : World} {k : Nat} {o : Obj}
theorem not_inn_obj (hB : B ≤ k) (h : X.heap[k]? = some o) (ho : o.isCells = false) : ¬ Inn B X k := by
 rintro (h1 | ⟨_, q, hq, cells, hc⟩)
 ·omega
 ·rw [h] at hc
  cases hc
  cases ho
theorem TR.putObj {v : Value} {l : List TxD} (hT : TR B X v l) (hB : B ≤ k) (h : X.heap[k]? = some o) (ho : o.isCells = false) (o' : Obj) : TR B (X.putObj k o') v l :=
 hT.keep (S := fun i => i = k) (keepS_putObj o' rfl) (fun i e => by subst e; exact not_inn_obj hB h ho) (fun i hi e => by
  subst e
  obtain ⟨_, cells, hc⟩ := hT.typed i hi
  rw [h] at hc
  cases hc
  cases ho)
theorem R_putObj {α : Type} {d : Kd α} {e base : Nat} {ok : Nat → Prop} {v : Value} {xs : List α} (hs : Kd.R d e X base ok v xs) (h : X.heap[k]? = some o) (ho : o.isCells = false) (o' : Obj) : Kd.R d e (X.putObj k o') base ok v xs :=
 Kd.R_mono (Kd.R_step (Kd.R_bound hs) (fun i hi _ => World.putObj_heap_other (fun e => by
  subst e
  obtain ⟨_, _, _, q, _, cells, hc⟩ := hi
  rw [h] at hc
  cases hc
  cases ho))) (fun _ hk => hk.1)
theorem VX.putObj {lo : Nat} {x : TxX} (hv : VX lo x X) (h : X.heap[k]? = some o) (ho : o.isCells = false) (o' : Obj) : VX lo x (X.putObj k o') :=
 ⟨R_putObj hv.1 h ho o', R_putObj hv.2.1 h ho o', R_putObj hv.2.2.1 h ho o', R_putObj hv.2.2.2 h ho o'⟩
end
def ApT (B : Nat) (w : World) (pre : List TxX) (W : World) : Prop := ∃ A c, W.heap[w.heap.size]? = some (.cells #[.slice A pre.length c] 22) ∧ TR B W (.slice A pre.length c) (pre.map (·.t)) ∧ (∀ a, A = some a → w.heap.size + 2 < a.block) ∧ Below w.heap.size w W
theorem ApT.below {B : Nat} {w X Y : World} {pre : List TxX} (h : ApT B w pre X) (hb : Below X.heap.size X Y) : ApT B w pre Y := by
 obtain ⟨A, c, h1, h2, h3, h4⟩ := h
 exact ⟨A, c, (hb.block _ (blk_lt h1)).trans h1, h2.below hb, h3, h4.trans (hb.mono h4.size)⟩
theorem ApT.putObj {B : Nat} {w X : World} {pre : List TxX} {k : Nat} {o : Obj} (h : ApT B w pre X) (hB : B ≤ w.heap.size) (hk : w.heap.size < k) (ho : X.heap[k]? = some o) (hc : o.isCells = false) (o' : Obj) : ApT B w pre (X.putObj k o') := by
 obtain ⟨A, c, h1, h2, h3, h4⟩ := h
 exact ⟨A, c, (World.putObj_heap_other (by omega)).trans h1, h2.putObj (by omega) ho hc o', h3, h4.trans ((keepS_putObj (S := fun i => i = k) o' rfl).below h4.size (fun i e => by omega))⟩
theorem waiting_is {B : Nat} {W : World} {g mp nb : Nat} {s : SqS} {A : Option Addr} {c : Nat} (h : IsSq B W g mp nb s A c) :
  Calls Try.prog 19 #[.pointer (some ⟨g, 0, none⟩)] W fun e w' => ∃ lb A' c', e = .returned (.func (.func 37) #[] #[.pointer (some ⟨lb, 0, none⟩)]) ∧ w'.cell? ⟨lb, 0, none⟩ = some (.slice A' s.l.length c') ∧ TR B w' (.slice A' s.l.length c') s.l ∧ Below W.heap.size W w' := by
 have hb := (Below.refl W.heap.size W).alloc (Nat.le_refl _) (.cells #[.slice none 0 0] 22)
 have HX := Lib.hid (heap_alloc_new W (.cells #[.slice none 0 0] 22))
 have HLT := Lib.hid (show B ≤ W.heap.size from Nat.le_trans h.bg (Nat.le_of_lt h.glt))
 obtain ⟨w0, hw⟩ : ∃ V, W.alloc (.cells #[.slice none 0 0] 22) = V := ⟨_, rfl⟩
 rw [hw] at hb HX
 have HQ := Lib.hid (h.below hb)
 have H := Lib.hid (noneOf (h.below hb))
 have HB := Lib.hid hb
 have e2 : w0.cell? ⟨g, 2, none⟩ = some (.slice A s.l.length c) := (blk_cell (h.below hb).y 2).trans rfl
 clear h hb
 go_enter Try.func19, Try.ntmps19
 go_wp2_with fail
 refine H.out.mono ?_
 rintro e w' ⟨rfl, rfl⟩
 clear H
 go_wp2_with fail
 refine (clone_txs HQ.out.r (by have h9 : s.l.length ≤ 64 := HQ.out.o.m; omega) (Nat.le_trans HLT.out HB.out.size)).mono ?_
 rintro e w1 ⟨A', c', rfl, hT, hb1, hn⟩
 have HT := Lib.hid hT; have HB1 := Lib.hid hb1; have HN := Lib.hid hn
 have HX1 := Lib.hid ((hb1.block W.heap.size (blk_lt HX.out)).trans HX.out)
 have y0 : w1.cell? ⟨W.heap.size, 0, none⟩ = some (.slice none 0 0) := (blk_cell HX1.out 0).trans rfl
 have y1 : w1.frozen? ⟨W.heap.size, 0, none⟩ = false := blk_frozen HX1.out 0
 clear hT hb1 hn e2
 go_wp2_with fail
 go_ret
 have hk := (KeepS.refl (fun i => i = W.heap.size) w1).set (p := ⟨W.heap.size, 0, none⟩) (.inl rfl) (.slice A' s.l.length c')
 refine ⟨W.heap.size, A', c', rfl, (blk_cell (blk_put HX1.out 0 _ rfl) 0).trans rfl, HT.out.keep hk (fun i e => by subst e; exact not_inn HLT.out HX1.out (by decide)) (fun k hk' e => by obtain ⟨a, ha, e2⟩ := own_iff.1 hk'; have := HN.out a ha; have := blk_lt HX.out; omega), ?_⟩
 exact (HB.out.trans (HB1.out.mono HB.out.size)).setCell (p := ⟨W.heap.size, 0, none⟩) (Nat.le_refl _) _
end Go.Proofs.Ytgmlpmdfkaadhaa.M
end

section
/- Which entries are the same: the reference's SameEntry. -/
attribute [local irreducible] Go.wpStill
namespace Go.Proofs.Ytgmlpmdfkaadhaa.M
open Go.RowKit Go.Proofs.YtgmlpmdfkaadhaaW.PrintWords Go.Proofs.YtgmlpmdfkaadhaaW.PrintLast Go.Proofs.YtgmlpmdfkaadhaaW.PrintMore Go.Proofs.Ytgmlpmdfkaadhaa.G
theorem refSameEn_is (k f n : Int) (A : Option Addr) (c : Nat) (l : List TxD) (k' f' n' : Int) (A' : Option Addr) (c' : Nat) (l' : List TxD) (w : World) (ha : Kd.C G.k32 w A l.length l) (hc : l.length ≤ c) (hb : Kd.C G.k32 w A' l'.length l') (hc' : l'.length ≤ c') :
  Calls Try.prog 22 #[.agg #[.int .i64 k, .int .i64 f, .int .i64 n, .slice A l.length c], .agg #[.int .i64 k', .int .i64 f', .int .i64 n', .slice A' l'.length c']] w fun e w' => e = .returned (.bool (eqEn k f n l k' f' n' l')) ∧ Below w.heap.size w w' := by
 obtain ⟨M, hM⟩ := bound_T l
 refine G.trivetref04_SameEntry.calls (M + l.length + 3) k f n A c l k' f' n' A' c' l' _ w ha hc hb hc' (sameEn_r _ k f n l k' f' n' l' (fun t ht => by have := hM t ht; omega) (by omega) ha.2.1 (fun t ht => ?_))
 obtain ⟨i, hi⟩ := List.getElem?_of_mem ht
 obtain ⟨ad, A2, c2, A3, c3, A4, c4, A5, c5, _, _, hX⟩ := tx_get ha hi
 exact hX.le
end Go.Proofs.Ytgmlpmdfkaadhaa.M
end

section
/- SequencerOwn: the walk. -/
attribute [local irreducible] Go.wpStill
namespace Go.Proofs.Ytgmlpmdfkaadhaa.M
open Go.RowKit Go.Shelf Go.Proofs.YtgmlpmdfkaadhaaW.PrintWords Go.Proofs.YtgmlpmdfkaadhaaW.PrintLast Go.Proofs.YtgmlpmdfkaadhaaW.PrintMore Go.Proofs.Ytgmlpmdfkaadhaa.G
attribute [local go_sem] Oper.semAt_some
theorem eqEn_refl' (k f n : Int) (l : List TxD) : eqEn k f n l k f n l = true := by unfold eqEn; rw [eqTs_refl]; simp
set_option maxHeartbeats 16000000 in
theorem own_walk (w : World) (t : TxD) {A2 A3 A4 A5 : Option Addr} {c2 c3 c4 c5 : Nat} (hF : Kd.FK G.k32 w (fun k => k < w.heap.size) t [.int .i64 t.f0, .int .i64 t.f1, .slice A2 t.f2.length c2, .slice A3 t.f3.length c3, .slice A4 t.f4.length c4, .slice A5 t.f5.length c5]) (ho : okT t = true) (hs : SmT t) :
  Calls Try.prog 5 #[.agg #[.int .i64 t.f0, .int .i64 t.f1, .slice A2 t.f2.length c2, .slice A3 t.f3.length c3, .slice A4 t.f4.length c4, .slice A5 t.f5.length c5]] w fun e w' => e = .returned (.bool true) ∧ Below w.heap.size w w' := by
 have HOT := Lib.hid ho; have HSM := Lib.hid hs
 have HWF := Lib.hid (show wf2 .i64 .i64 (t.f0, t.f1) from wf_key ho)
 have hb := (Below.refl w.heap.size w).alloc (Nat.le_refl _) (.cells #[.int .i64 t.f0, .int .i64 t.f1, .slice A2 t.f2.length c2, .slice A3 t.f3.length c3, .slice A4 t.f4.length c4, .slice A5 t.f5.length c5] 32)
 have HB0 := Lib.hid hb
 have HX0 := Lib.hid (heap_alloc_new w (.cells #[.int .i64 t.f0, .int .i64 t.f1, .slice A2 t.f2.length c2, .slice A3 t.f3.length c3, .slice A4 t.f4.length c4, .slice A5 t.f5.length c5] 32))
 have HF0 := Lib.hid (fk_came hF hb)
 obtain ⟨w0, hw0⟩ : ∃ V, w.alloc (.cells #[.int .i64 t.f0, .int .i64 t.f1, .slice A2 t.f2.length c2, .slice A3 t.f3.length c3, .slice A4 t.f4.length c4, .slice A5 t.f5.length c5] 32) = V := ⟨_, rfl⟩
 rw [hw0] at HB0 HX0 HF0
 have HW0 := Lib.hid hw0
 obtain ⟨tb, htb⟩ : ∃ tb, w.heap.size = tb := ⟨_, rfl⟩
 have HTB := Lib.hid htb
 clear ho hs hF hb hw0
 refine (callsIn_wide (n := 4)).1 ?_
 refine callsIn_of_wp_marks Try.func5 rfl trivial ?_ rfl
 simp only [Try.ntmps5, List.size_toArray, List.length_cons, List.length_nil, Nat.reduceAdd, Nat.reduceSub, Array.replicate_succ, Array.replicate_zero, List.push_toArray, List.append_toArray, List.nil_append, List.cons_append]
 refine wpIn_wide.2 ?_
 go_upto_region 1 with fail
 rw [HW0.out]
 try rw [htb]
 rw [htb] at HX0
 clear htb
 go_wp2_with fail
 refine (new_is (r := 0) (by decide) (B := w.heap.size) HB0.out.size).mono ?_
 rintro e w1 ⟨rfl, hq1, hb1⟩
 obtain ⟨g, hg⟩ : ∃ g, w0.heap.size + 1 = g := ⟨_, rfl⟩
 obtain ⟨mp, hmp⟩ : ∃ mp, w0.heap.size = mp := ⟨_, rfl⟩
 have HG1 := Lib.hid (show tb < g ∧ tb < mp by have := blk_lt HX0.out; omega)
 have HQ1 := Lib.hid (show IsSq w.heap.size w1 g mp 0 (newQ 0) none 0 by rw [← hg, ← hmp]; exact hq1)
 have HB1 := Lib.hid (HB0.out.trans (hb1.mono HB0.out.size)); have HX1 := Lib.hid ((hb1.block tb (blk_lt HX0.out)).trans HX0.out); have HF1 := Lib.hid (FK_calm HF0.out (.of_below hb1))
 rw [hg]
 clear hq1 hb1 hg hmp HB0 HX0 HF0
 go_wp2_with fail
 refine (rnew_is (r := 0) (by decide) (B := w.heap.size) HB1.out.size).mono ?_
 rintro e w2 ⟨rfl, hq, hb⟩
 have HT2 := Lib.hid (show Two w.heap.size w w2 g mp 0 w1.heap.size (newQ 0) none 0 (newQ 0) none 0 from ⟨HQ1.out.below hb, hq, HB1.out.trans (hb.mono HB1.out.size), fun k e e' => by
  have h1 := HQ1.out.lt k e
  rcases e' with e' | e' | ⟨a, ha, _⟩
  ·omega
  ·omega
  ·cases ha⟩)
 have HQB := Lib.hid (show tb < w1.heap.size from blk_lt HX1.out)
 have HX2 := Lib.hid ((hb.block tb (blk_lt HX1.out)).trans HX1.out); have HF2 := Lib.hid (FK_calm HF1.out (.of_below hb))
 obtain ⟨q, hq0⟩ : ∃ q, w1.heap.size = q := ⟨_, rfl⟩
 rw [hq0] at HT2 HQB ⊢
 clear hq hb hq0 HQ1 HB1 HX1 HF1
 go_wp2_with fail
 refine (live_is w2).mono ?_
 rintro e w3 ⟨rfl, hb⟩
 have HT3 := Lib.hid (HT2.out.below hb); have HX3 := Lib.hid ((hb.block tb (blk_lt HX2.out)).trans HX2.out); have HF3 := Lib.hid (FK_calm HF2.out (.of_below hb))
 clear hb HT2 HX2 HF2
 have x0 : w3.cell? ⟨tb, 0, none⟩ = some (.int .i64 t.f0) := (blk_cell HX3.out 0).trans rfl
 have x1 : w3.cell? ⟨tb, 1, none⟩ = some (.int .i64 t.f1) := (blk_cell HX3.out 1).trans rfl
 have x2 : w3.cell? ⟨tb, 2, none⟩ = some (.slice A2 t.f2.length c2) := (blk_cell HX3.out 2).trans rfl
 have x3 : w3.cell? ⟨tb, 3, none⟩ = some (.slice A3 t.f3.length c3) := (blk_cell HX3.out 3).trans rfl
 have x4 : w3.cell? ⟨tb, 4, none⟩ = some (.slice A4 t.f4.length c4) := (blk_cell HX3.out 4).trans rfl
 have x5 : w3.cell? ⟨tb, 5, none⟩ = some (.slice A5 t.f5.length c5) := (blk_cell HX3.out 5).trans rfl
 go_wp2_with fail
 have hb := (Below.refl w3.heap.size w3).alloc (Nat.le_refl _) (.cells #[.int .i64 t.f0, .int .i64 t.f1, .slice A2 t.f2.length c2, .slice A3 t.f3.length c3, .slice A4 t.f4.length c4, .slice A5 t.f5.length c5] 32)
 have HC4 := Lib.hid (show Kd.C G.k32 (w3.alloc (.cells #[.int .i64 t.f0, .int .i64 t.f1, .slice A2 t.f2.length c2, .slice A3 t.f3.length c3, .slice A4 t.f4.length c4, .slice A5 t.f5.length c5] 32)) (some ⟨w3.heap.size, 0, none⟩) 1 [t] from C_tx1 (txC_of HF3.out) _)
 have HT4 := Lib.hid (HT3.out.below hb); have HX4 := Lib.hid ((hb.block tb (blk_lt HX3.out)).trans HX3.out); have HF4 := Lib.hid (FK_calm HF3.out (.of_below hb))
 obtain ⟨w4, hw4⟩ : ∃ V, w3.alloc (.cells #[.int .i64 t.f0, .int .i64 t.f1, .slice A2 t.f2.length c2, .slice A3 t.f3.length c3, .slice A4 t.f4.length c4, .slice A5 t.f5.length c5] 32) = V := ⟨_, rfl⟩
 rw [hw4] at HC4 HT4 HX4 HF4 ⊢
 clear hw4 hb HT3 HX3 HF3 x0 x1 x2 x3 x4 x5
 refine (refCloneEn_is (w := w4) ⟨1, 0, 0, [t]⟩ (A := some ⟨w3.heap.size, 0, none⟩) (c := 1) (Nat.le_refl 1) HC4.out ⟨(by decide : 1 ≤ 1048576), fun u hu => by rw [List.mem_singleton.1 hu]; exact HSM.out⟩).mono ?_
 rintro e w5 ⟨v3, rfl, hS, hb⟩
 obtain ⟨E, ce, rfl⟩ := Kd.S_slice hS
 obtain ⟨ga, N2, n2, N3, n3, N4, n4, N5, n5, rfl, ⟨y0, y1, y2, y3, y4, y5⟩, hFK, hI2, hI3⟩ := mine_is (Kd.S_R hS)
 have HT5 := Lib.hid (HT4.out.below hb); have HX5 := Lib.hid ((hb.block tb (blk_lt HX4.out)).trans HX4.out); have HF5 := Lib.hid (FK_calm HF4.out (.of_below hb))
 have HM5 := Lib.hid hFK
 have HI2 := Lib.hid hI2; have HI3 := Lib.hid hI3
 have HLS := Lib.hid (show (∀ k, sqS g mp none k → k < w4.heap.size) ∧ q < w4.heap.size ∧ w.heap.size ≤ w4.heap.size ∧ w4.heap.size ≤ w5.heap.size from ⟨HT4.out.s.lt, HT4.out.f.glt, HT4.out.le, hb.size⟩)
 have LM2 : t.f2.length ≤ 9223372036854775807 := hI2.m
 have LM3 : t.f3.length ≤ 9223372036854775807 := hI3.m
 obtain ⟨bs, hbs⟩ : ∃ bs, w4.heap.size = bs := ⟨_, rfl⟩
 rw [hbs] at HI2 HI3 HLS HM5
 clear hS hb HT4 HX4 HF4 HC4 hFK hI2 hI3 hbs
 have hfd : ∀ (x0 x1 x2 x3 : Value) (w : World), (Instr.field 36 (.agg #[x0, x1, x2, x3]) 3).run Try.prog w = .ok x3 w := fun _ _ _ _ _ => by kernel_rfl
 dsimp only
 go_upto_region 6 with fail
 have hb := (Below.refl w5.heap.size w5).alloc (Nat.le_refl _) (.cells #[.int .i64 t.f0, .int .i64 t.f1, .slice N2 t.f2.length n2, .slice N3 t.f3.length n3, .slice N4 t.f4.length n4, .slice N5 t.f5.length n5] 32)
 have HN6 := Lib.hid (heap_alloc_new w5 (.cells #[.int .i64 t.f0, .int .i64 t.f1, .slice N2 t.f2.length n2, .slice N3 t.f3.length n3, .slice N4 t.f4.length n4, .slice N5 t.f5.length n5] 32))
 have HT6 := Lib.hid ((HT5.out.below hb).below (Below.refl _ (w5.alloc (.cells #[.int .i64 t.f0, .int .i64 t.f1, .slice N2 t.f2.length n2, .slice N3 t.f3.length n3, .slice N4 t.f4.length n4, .slice N5 t.f5.length n5] 32))).drew); have HX6 := Lib.hid (show (w5.alloc (.cells #[.int .i64 t.f0, .int .i64 t.f1, .slice N2 t.f2.length n2, .slice N3 t.f3.length n3, .slice N4 t.f4.length n4, .slice N5 t.f5.length n5] 32)).drew.heap[tb]? = _ from (hb.block tb (blk_lt HX5.out)).trans HX5.out); have HF6 := Lib.hid (FK_calm (FK_calm HF5.out (.of_below hb)) (.of_below (Below.refl _ (w5.alloc (.cells #[.int .i64 t.f0, .int .i64 t.f1, .slice N2 t.f2.length n2, .slice N3 t.f3.length n3, .slice N4 t.f4.length n4, .slice N5 t.f5.length n5] 32))).drew)); have HM6 := Lib.hid (Fl_below (Fl_below HM5.out hb) (Below.refl _ (w5.alloc (.cells #[.int .i64 t.f0, .int .i64 t.f1, .slice N2 t.f2.length n2, .slice N3 t.f3.length n3, .slice N4 t.f4.length n4, .slice N5 t.f5.length n5] 32))).drew)
 have HI26 := Lib.hid ((HI2.out.keep (KeepS.of_below (fun _ => False) hb) (fun _ e => e.elim)).keep (KeepS.of_below (fun _ => False) (Below.refl _ (w5.alloc (.cells #[.int .i64 t.f0, .int .i64 t.f1, .slice N2 t.f2.length n2, .slice N3 t.f3.length n3, .slice N4 t.f4.length n4, .slice N5 t.f5.length n5] 32))).drew) (fun _ e => e.elim)); have HI36 := Lib.hid ((HI3.out.keep (KeepS.of_below (fun _ => False) hb) (fun _ e => e.elim)).keep (KeepS.of_below (fun _ => False) (Below.refl _ (w5.alloc (.cells #[.int .i64 t.f0, .int .i64 t.f1, .slice N2 t.f2.length n2, .slice N3 t.f3.length n3, .slice N4 t.f4.length n4, .slice N5 t.f5.length n5] 32))).drew) (fun _ e => e.elim))
 obtain ⟨mb, hmb⟩ : ∃ mb, w5.heap.size = mb := ⟨_, rfl⟩
 have HMB := Lib.hid (show bs ≤ mb ∧ (w5.alloc (.cells #[.int .i64 t.f0, .int .i64 t.f1, .slice N2 t.f2.length n2, .slice N3 t.f3.length n3, .slice N4 t.f4.length n4, .slice N5 t.f5.length n5] 32)).heap.size = mb + 1 from ⟨by have := HLS.out.2.2.2; omega, by simp [hmb]⟩)
 have HMV := Lib.hid hmb
 obtain ⟨w6, hw6⟩ : ∃ V, w5.alloc (.cells #[.int .i64 t.f0, .int .i64 t.f1, .slice N2 t.f2.length n2, .slice N3 t.f3.length n3, .slice N4 t.f4.length n4, .slice N5 t.f5.length n5] 32) = V := ⟨_, rfl⟩
 rw [hw6] at HN6 HT6 HX6 HF6 HM6 HI26 HI36 HMB ⊢
 rw [hmb] at HN6 ⊢
 clear hw6 hmb hb HT5 HX5 HF5 HM5 y0 y1 y2 y3 y4 y5
 have x0 : w6.cell? ⟨tb, 0, none⟩ = some (.int .i64 t.f0) := (blk_cell (show w6.heap[tb]? = _ from HX6.out) 0).trans rfl
 have x1 : w6.cell? ⟨tb, 1, none⟩ = some (.int .i64 t.f1) := (blk_cell (show w6.heap[tb]? = _ from HX6.out) 1).trans rfl
 have x2 : w6.cell? ⟨tb, 2, none⟩ = some (.slice A2 t.f2.length c2) := (blk_cell (show w6.heap[tb]? = _ from HX6.out) 2).trans rfl
 have x3 : w6.cell? ⟨tb, 3, none⟩ = some (.slice A3 t.f3.length c3) := (blk_cell (show w6.heap[tb]? = _ from HX6.out) 3).trans rfl
 have x4 : w6.cell? ⟨tb, 4, none⟩ = some (.slice A4 t.f4.length c4) := (blk_cell (show w6.heap[tb]? = _ from HX6.out) 4).trans rfl
 have x5 : w6.cell? ⟨tb, 5, none⟩ = some (.slice A5 t.f5.length c5) := (blk_cell (show w6.heap[tb]? = _ from HX6.out) 5).trans rfl
 have y0 : w6.cell? ⟨mb, 0, none⟩ = some (.int .i64 t.f0) := (blk_cell HN6.out 0).trans rfl
 have y1 : w6.cell? ⟨mb, 1, none⟩ = some (.int .i64 t.f1) := (blk_cell HN6.out 1).trans rfl
 have y2 : w6.cell? ⟨mb, 2, none⟩ = some (.slice N2 t.f2.length n2) := (blk_cell HN6.out 2).trans rfl
 have y3 : w6.cell? ⟨mb, 3, none⟩ = some (.slice N3 t.f3.length n3) := (blk_cell HN6.out 3).trans rfl
 have y4 : w6.cell? ⟨mb, 4, none⟩ = some (.slice N4 t.f4.length n4) := (blk_cell HN6.out 4).trans rfl
 have y5 : w6.cell? ⟨mb, 5, none⟩ = some (.slice N5 t.f5.length n5) := (blk_cell HN6.out 5).trans rfl
 have HOFF := Lib.hid (show ∀ b, b = tb ∨ b = mb → ¬ sqS g mp none b ∧ ¬ sqS q q none b from fun b hb => by
  have h1 := HG1.out; have h2 := HQB.out; have h3 := HMB.out.1; have h4 := HLS.out
  constructor
  ·intro e
   have h5 := h4.1 b e
   rcases e with e | e | ⟨a, ha, _⟩
   ·omega
   ·omega
   ·cases ha
  ·intro e
   rcases e with e | e | ⟨a, ha, _⟩
   ·omega
   ·omega
   ·cases ha)
 obtain ⟨z, hz⟩ : ∃ z, tz t = z := ⟨_, rfl⟩
 have HZ := Lib.hid hz
 clear hz
 have qz : (z != z) = false := by simp
 go_wp2_with fail
 go_region_held3 (fun w' => w'.cell? ⟨mb, 0, none⟩ = some (.int .i64 t.f0) ∧ w'.cell? ⟨mb, 1, none⟩ = some (.int .i64 t.f1) ∧ w'.cell? ⟨mb, 2, none⟩ = some (.slice N2 t.f2.length n2) ∧ w'.cell? ⟨mb, 3, none⟩ = some (.slice N3 t.f3.length n3) ∧ w'.cell? ⟨mb, 4, none⟩ = some (.slice N4 t.f4.length n4) ∧ w'.cell? ⟨mb, 5, none⟩ = some (.slice N5 t.f5.length n5) ∧ w'.cell? ⟨tb, 0, none⟩ = some (.int .i64 t.f0) ∧ w'.cell? ⟨tb, 1, none⟩ = some (.int .i64 t.f1) ∧ w'.cell? ⟨tb, 2, none⟩ = some (.slice A2 t.f2.length c2) ∧ w'.cell? ⟨tb, 3, none⟩ = some (.slice A3 t.f3.length c3) ∧ w'.cell? ⟨tb, 4, none⟩ = some (.slice A4 t.f4.length c4) ∧ w'.cell? ⟨tb, 5, none⟩ = some (.slice A5 t.f5.length c5)) (go_keep) (first
  | (go_at_call 10; refine (take_low HT6.out.s ⟨rfl, rfl, rfl⟩ (Fl_inn HM6.out) HOT.out (by decide) HWF.out).mono ?_; rintro e w7 ⟨B7, d7, rfl, hQ, hK, hN, hL⟩; rw [HZ.out]; have HT7 := Lib.hid (HT6.out.goS hQ hK hN); have HL7 := Lib.hid hL; have HX7 := Lib.hid ((hK.block tb (blk_lt HX6.out) (HOFF.out tb (.inl rfl)).1).trans HX6.out); have HN7 := Lib.hid ((hK.block mb (blk_lt HN6.out) (HOFF.out mb (.inr rfl)).1).trans (show w6.drew.heap[mb]? = _ from HN6.out)); have HF7 := Lib.hid (FK_calm HF6.out (.of_keep hK HT6.out.s.out)); have HI27 := Lib.hid (HI26.out.keep hK (fun k e => HLS.out.1 k e)); have HI37 := Lib.hid (HI36.out.keep hK (fun k e => HLS.out.1 k e)); have HZ7 := Lib.hid hK.size; have p0 : w7.cell? ⟨tb, 0, none⟩ = some (.int .i64 t.f0) := (blk_cell HX7.out 0).trans rfl; have p1 : w7.cell? ⟨tb, 1, none⟩ = some (.int .i64 t.f1) := (blk_cell HX7.out 1).trans rfl; have p2 : w7.cell? ⟨tb, 2, none⟩ = some (.slice A2 t.f2.length c2) := (blk_cell HX7.out 2).trans rfl; have p3 : w7.cell? ⟨tb, 3, none⟩ = some (.slice A3 t.f3.length c3) := (blk_cell HX7.out 3).trans rfl; have p4 : w7.cell? ⟨tb, 4, none⟩ = some (.slice A4 t.f4.length c4) := (blk_cell HX7.out 4).trans rfl; have p5 : w7.cell? ⟨tb, 5, none⟩ = some (.slice A5 t.f5.length c5) := (blk_cell HX7.out 5).trans rfl; have r0 : w7.cell? ⟨mb, 0, none⟩ = some (.int .i64 t.f0) := (blk_cell HN7.out 0).trans rfl; have r1 : w7.cell? ⟨mb, 1, none⟩ = some (.int .i64 t.f1) := (blk_cell HN7.out 1).trans rfl; have r2 : w7.cell? ⟨mb, 2, none⟩ = some (.slice N2 t.f2.length n2) := (blk_cell HN7.out 2).trans rfl; have r3 : w7.cell? ⟨mb, 3, none⟩ = some (.slice N3 t.f3.length n3) := (blk_cell HN7.out 3).trans rfl; have r4 : w7.cell? ⟨mb, 4, none⟩ = some (.slice N4 t.f4.length n4) := (blk_cell HN7.out 4).trans rfl; have r5 : w7.cell? ⟨mb, 5, none⟩ = some (.slice N5 t.f5.length n5) := (blk_cell HN7.out 5).trans rfl; clear hQ hK hN hL)
  | (go_at_call 18; refine (rtake_low HT7.out.f ⟨rfl, rfl, rfl⟩ HF7.out HOT.out).mono ?_; rintro e w8 ⟨B8, d8, rfl, hQ, hK, hN, hL⟩; rw [HZ.out]; have HT8 := Lib.hid (HT7.out.goF hQ hK hN); have HM8 := Lib.hid hL; have HL8 := Lib.hid (HL7.out.keep hK (fun k e => by have h1 := HMB.out; have h2 := HLS.out; show k < w6.heap.size; rcases sqS_none e with e | e <;> omega)); have HX8 := Lib.hid ((hK.block tb (blk_lt HX7.out) (HOFF.out tb (.inl rfl)).2).trans HX7.out); have HN8 := Lib.hid ((hK.block mb (blk_lt HN7.out) (HOFF.out mb (.inr rfl)).2).trans HN7.out); have HI28 := Lib.hid (HI27.out.keep hK (fun k e => by have h2 := HLS.out; rcases sqS_none e with e | e <;> omega)); have HI38 := Lib.hid (HI37.out.keep hK (fun k e => by have h2 := HLS.out; rcases sqS_none e with e | e <;> omega)); have p_0 : w8.cell? ⟨tb, 0, none⟩ = some (.int .i64 t.f0) := (blk_cell HX8.out 0).trans rfl; have p_1 : w8.cell? ⟨tb, 1, none⟩ = some (.int .i64 t.f1) := (blk_cell HX8.out 1).trans rfl; have p_2 : w8.cell? ⟨tb, 2, none⟩ = some (.slice A2 t.f2.length c2) := (blk_cell HX8.out 2).trans rfl; have p_3 : w8.cell? ⟨tb, 3, none⟩ = some (.slice A3 t.f3.length c3) := (blk_cell HX8.out 3).trans rfl; have p_4 : w8.cell? ⟨tb, 4, none⟩ = some (.slice A4 t.f4.length c4) := (blk_cell HX8.out 4).trans rfl; have p_5 : w8.cell? ⟨tb, 5, none⟩ = some (.slice A5 t.f5.length c5) := (blk_cell HX8.out 5).trans rfl; have r_0 : w8.cell? ⟨mb, 0, none⟩ = some (.int .i64 t.f0) := (blk_cell HN8.out 0).trans rfl; have r_1 : w8.cell? ⟨mb, 1, none⟩ = some (.int .i64 t.f1) := (blk_cell HN8.out 1).trans rfl; have r_2 : w8.cell? ⟨mb, 2, none⟩ = some (.slice N2 t.f2.length n2) := (blk_cell HN8.out 2).trans rfl; have r_3 : w8.cell? ⟨mb, 3, none⟩ = some (.slice N3 t.f3.length n3) := (blk_cell HN8.out 3).trans rfl; have r_4 : w8.cell? ⟨mb, 4, none⟩ = some (.slice N4 t.f4.length n4) := (blk_cell HN8.out 4).trans rfl; have r_5 : w8.cell? ⟨mb, 5, none⟩ = some (.slice N5 t.f5.length n5) := (blk_cell HN8.out 5).trans rfl; clear hQ hK hN hL))
 have HSP0 := Lib.hid (show bs ≤ mb ∧ (∀ k, bs ≤ k → k < mb → w.heap.size ≤ k ∧ k < w6.drew.heap.size ∧ k ≠ g ∧ k ≠ mp ∧ k ≠ q) from ⟨HMB.out.1, fun k h1 h2 => by
  have h3 := HLS.out; have h4 := HMB.out.2
  have h5 := h3.1 g (.inl rfl); have h6 := h3.1 mp (.inr (.inl rfl))
  exact ⟨by omega, by show k < w6.heap.size; omega, by omega, by omega, by omega⟩⟩)
 have HLO := Lib.hid (show w.heap.size ≤ w6.drew.heap.size by have h3 := HLS.out; have h4 := HMB.out; show w.heap.size ≤ w6.heap.size; omega)
 have HTY8 := Lib.hid (show w6.drew.heap.size ≤ w7.heap.size from HZ7.out)
 clear HT6 HX6 HF6 HM6 HI26 HI36 HN6 HT7 HL7 HX7 HN7 HF7 HI27 HI37 HOFF x0 x1 x2 x3 x4 x5 y0 y1 y2 y3 y4 y5 p0 p1 p2 p3 p4 p5 r0 r1 r2 r3 r4 r5 p_0 p_1 p_2 p_3 p_4 p_5 r_0 r_1 r_2 r_3 r_4 r_5 qz
 have Q2 := Lib.hid (show w8.cell? ⟨mb, 2, none⟩ = some (.slice N2 t.f2.length n2) from (blk_cell HN8.out 2).trans rfl)
 have Q3 := Lib.hid (show w8.cell? ⟨mb, 3, none⟩ = some (.slice N3 t.f3.length n3) from (blk_cell HN8.out 3).trans rfl)
 have q2 := Q2.out
 go_upto_block 0 with fail
 clear q2
 go_wp2_with fail
 go_loopw [47] (fun i W => ∃ j : Nat, i = .int .i64 (j : Int) ∧ j ≤ t.f2.length ∧ Sp bs w8 W ∧ KeepS (fun i => bs ≤ i ∧ i < mb) w8 W) (fun i _ => t.f2.length - (intOf i).toNat)
 case atStart => exact ⟨0, rfl, Nat.zero_le _, Sp.refl _ _, KeepS.refl _ _⟩
 case round =>
  obtain ⟨j, rfl, hj, hS, hK⟩ := hrel
  have HS9 := Lib.hid hS; have HK9 := Lib.hid hK
  clear hS hK
  by_cases hjl : j < t.f2.length
  ·obtain ⟨gb, hN2, hgb, ⟨x_, hx⟩, hf⟩ := (HI28.out.step HS9.out).at_ j hjl
   obtain ⟨gb', hN2', _, ⟨x', hx'⟩, _⟩ := HI2.out.at_ j hjl
   have hgm : gb < mb := by
    rw [hN2] at hN2'
    injection hN2' with h1
    injection h1 with h1
    have h2 : gb' < w5.heap.size := World.block_lt_of_cell? w5 _ hx'
    have h3 := HMV.out
    omega
   subst hN2
   have q2 := HS9.out.slice HMB.out.1 Q2.out
   have HX := Lib.hid (And.intro hgb (And.intro hx hgm))
   clear hN2' hx' hgm
   go_wp2_with fail
   go_roundw
   case rel => exact ⟨j + 1, by go_num, hjl, HS9.out.trans (Sp.put HX.out.1 HX.out.2.1 _), HK9.out.set (p := ⟨gb, j, none⟩) (.inl ⟨HX.out.1, HX.out.2.2⟩) _⟩
   case measure => simp [intOf]; omega
  ·have hjl : j = t.f2.length := by omega
   subst hjl
   clear hj
   obtain ⟨w9, hwn⟩ : ∃ V, wr = V := ⟨_, rfl⟩
   rw [hwn] at HS9 HK9 ⊢
   clear hwn
   have q3 := HS9.out.slice HMB.out.1 Q3.out
   go_upto_block 2 with fail
   clear q3
   go_wp2_with fail
   go_loopw [61] (fun i W => ∃ j : Nat, i = .int .i64 (j : Int) ∧ j ≤ t.f3.length ∧ Sp bs w8 W ∧ KeepS (fun i => bs ≤ i ∧ i < mb) w8 W) (fun i _ => t.f3.length - (intOf i).toNat)
   case atStart => exact ⟨0, rfl, Nat.zero_le _, HS9.out, HK9.out⟩
   case round =>
    obtain ⟨j, rfl, hj, hS, hK⟩ := hrel
    have HS10 := Lib.hid hS; have HK10 := Lib.hid hK
    clear hS hK
    by_cases hjl : j < t.f3.length
    ·obtain ⟨gb, hN2, hgb, ⟨x_, hx⟩, hf⟩ := (HI38.out.step HS10.out).at_ j hjl
     obtain ⟨gb', hN2', _, ⟨x', hx'⟩, _⟩ := HI3.out.at_ j hjl
     have hgm : gb < mb := by
      rw [hN2] at hN2'
      injection hN2' with h1
      injection h1 with h1
      have h2 : gb' < w5.heap.size := World.block_lt_of_cell? w5 _ hx'
      have h3 := HMV.out
      omega
     subst hN2
     have q2 := HS10.out.slice HMB.out.1 Q3.out
     have HX := Lib.hid (And.intro hgb (And.intro hx hgm))
     clear hN2' hx' hgm
     go_wp2_with fail
     go_roundw
     case rel => exact ⟨j + 1, by go_num, hjl, HS10.out.trans (Sp.put HX.out.1 HX.out.2.1 _), HK10.out.set (p := ⟨gb, j, none⟩) (.inl ⟨HX.out.1, HX.out.2.2⟩) _⟩
     case measure => simp [intOf]; omega
    ·have hjl : j = t.f3.length := by omega
     subst hjl
     clear hj
     obtain ⟨w10, hwn⟩ : ∃ V, wr = V := ⟨_, rfl⟩
     rw [hwn] at HS10 HK10 ⊢
     clear hwn
     have HT10 := Lib.hid (HT8.out.spoilt HL8.out HM8.out HLO.out HTY8.out HK10.out (fun k e => HSP0.out.2 k e.1 e.2))
     clear HT8 HL8 HM8 HS10 HS9 HK9 HN8 HX8 HI28 HI38 HI2 HI3 Q2 Q3
     go_wp2_with fail
     refine (waiting_is HT10.out.s).mono ?_
     rintro e w11 ⟨lb, C11, d11, rfl, hl, hT, hb⟩
     have HSQ := Lib.hid (wait1_seq hl hT (fun u hu => (HT10.out.s.o.a u hu).2))
     have HT11 := Lib.hid (HT10.out.below hb)
     clear hl hT hb HT10 HK10
     go_wp2_with fail
     refine (wpIn_wide (n := 4)).1 ?_
     refine range_W (w := w11) (w0 := w11) rfl (by omega) (gf := 37) (lb := #[.pointer (some ⟨lb, 0, none⟩)]) rfl trivial (enters_of Try.func37 (by kernel_rfl) rfl)
      HSQ.out (Below.refl _ _) (fun _ => rfl) (fun _ W => Below w11.heap.size w11 W) (fun _ X Y h hb => h.trans (hb.mono h.size)) (fun _ X o o' h ho hc => h.trans ((keepS_putObj (S := fun k => k = w11.heap.size + 1) o' rfl).below h.size (fun i e => by omega))) (fun x X Y h hb => h.below hb) (fun x X o o' h ho hc => h.putObj ho hc o')
      (Below.refl _ _) ?round ?done
     case round =>
      rintro pre x W hi hv hbw hlen hlt K hK
      dsimp only [encX]
      gi_wp2_with fail
      refine hK _ _ ((Below.refl W.heap.size W).alloc (Nat.le_refl _) _) (fun W2 hk2 hi2 hv2 hd2 hl2 => ?_)
      obtain ⟨o2, ho2, hoc⟩ := hl2
      have hz2 : W.heap.size + 1 ≤ W2.heap.size := by have := hk2.size; simpa using this
      have HBX := Lib.hid (show W2.heap[W.heap.size]? = some (.cells #[.int .i64 x.t.f0, .int .i64 x.t.f1, .slice x.A2 x.t.f2.length x.c2, .slice x.A3 x.t.f3.length x.c3, .slice x.A4 x.t.f4.length x.c4, .slice x.A5 x.t.f5.length x.c5] 32) from (hk2.block W.heap.size (by simp) (by omega)).trans (heap_alloc_new W _))
      obtain ⟨D, hD⟩ : ∃ D, w11.heap.size = D := ⟨_, rfl⟩
      have HKY := Lib.hid (show Keys D W2 x.A4 x.t.f4.length from Keys.of hv2.2.2.1 (by rw [hD]; exact Nat.le_refl _))
      have HLM : x.t.f4.length ≤ 9223372036854775807 := HKY.out.m
      have HNC := Lib.hid (show (∀ j v, W2.cell? ⟨D, j, none⟩ ≠ some v) ∧ ∀ j v, W2.cell? ⟨D + 1, j, none⟩ ≠ some v by
       rw [← hD]
       exact ⟨fun j v e => (by have h1 := cells_of_cell e hd2; cases h1), fun j v e => (by have h1 := cells_of_cell e ho2; rw [hoc] at h1; cases h1)⟩)
      have HWX := Lib.hid (show D ≤ W.heap.size ∧ D + 1 < W2.heap.size by have := hbw.size; omega)
      have HI2_ := Lib.hid hi2
      clear hk2 hi2 hv2 hd2 ho2 hoc hi hv hbw hlen hlt hK hz2
      have X4 := Lib.hid (show W2.cell? ⟨W.heap.size, 4, none⟩ = some (.slice x.A4 x.t.f4.length x.c4) from (blk_cell HBX.out 4).trans rfl)
      obtain ⟨xb, hxb⟩ : ∃ xb, W.heap.size = xb := ⟨_, rfl⟩
      rw [hxb] at HWX X4 ⊢
      have x4 := X4.out
      gi_wp2_with fail
      clear x4
      gi_loopw [78] (fun i wr => ∃ j : Nat, i = .int .i64 (j : Int) ∧ j ≤ x.t.f4.length ∧ Sp D W2 wr ∧ KeepS (fun i => D ≤ i ∧ i ≠ D ∧ i ≠ D + 1) W2 wr) (fun i _ => x.t.f4.length - (intOf i).toNat)
      case atStart => exact ⟨0, rfl, Nat.zero_le _, Sp.refl _ _, KeepS.refl _ _⟩
      case round =>
       obtain ⟨j, rfl, hj, hS, hK⟩ := hrel
       have HS := Lib.hid hS; have HK := Lib.hid hK
       clear hS hK
       by_cases hjl : j < x.t.f4.length
       ·obtain ⟨gb, hN2, hgb, ⟨x_, hx⟩, hf⟩ := (HKY.out.step HS.out).at_ j hjl
        obtain ⟨gb', hN2', _, ⟨x', hx'⟩, _⟩ := HKY.out.at_ j hjl
        have hne : gb ≠ D ∧ gb ≠ D + 1 := by
         rw [hN2] at hN2'
         injection hN2' with h1
         injection h1 with h1
         rw [h1]
         exact ⟨fun e => HNC.out.1 _ _ (by rw [← e]; exact hx'), fun e => HNC.out.2 _ _ (by rw [← e]; exact hx')⟩
        have x4 := HS.out.slice HWX.out.1 X4.out
        rw [hN2] at x4
        have HX := Lib.hid (And.intro hgb (And.intro hx hne))
        clear hN2' hx' hne
        gi_wp2_with fail
        go_roundw
        case rel => exact ⟨j + 1, by go_num, hjl, HS.out.trans (Sp.put HX.out.1 HX.out.2.1 _), HK.out.set (p := ⟨gb, j * 2 + 1, none⟩) (.inl ⟨HX.out.1, HX.out.2.2.1, HX.out.2.2.2⟩) _⟩
        case measure => simp [intOf]; omega
       ·have hjl : j = x.t.f4.length := by omega
        subst hjl
        clear hj
        gi_wp2_with fail
        refine ⟨rfl, fun k hk => ?_, ?_, ?_⟩
        ·rw [hD] at hk
         exact HK.out.block k (by have := HWX.out.2; omega) (fun e => by omega)
        ·rw [hD]
         exact HK.out.below (by have := HWX.out.2; omega) (fun i e => e.1)
        ·have h1 := HI2_.out
         rw [hD] at h1
         rw [hD]
         exact h1.trans (HK.out.below (by have := HWX.out.2; omega) (fun i e => e.1))
     case done =>
      rintro xs W hS hbw hKD
      have HT12 := Lib.hid (HT11.out.below hbw)
      have HD12 := Lib.hid (show W.heap[w11.heap.size]? = _ from hKD)
      have HLD := Lib.hid (show (∀ k, sqS g mp B7 k → k < w11.heap.size) ∧ (∀ k, sqS q q B8 k → k < w11.heap.size) ∧ w.heap.size ≤ w11.heap.size ∧ w11.heap.size < W.heap.size from ⟨HT11.out.s.lt, HT11.out.f.lt, HT11.out.le, blk_lt hKD⟩)
      obtain ⟨D, hD⟩ : ∃ D, w11.heap.size = D := ⟨_, rfl⟩
      rw [hD] at HD12 HLD ⊢
      clear hS hbw hKD HT11 HSQ hD
      go_wp2_with fail
      refine (flush_is HT12.out.s).mono ?_
      rintro e w13 ⟨C13, d13, E13, rfl, hQ, hT, hK, hN, hE⟩
      obtain ⟨E7, e7, rfl, _⟩ := hT.slice
      have HT13 := Lib.hid (HT12.out.goS hQ hK hN)
      have HD13 := Lib.hid ((hK.block D HLD.out.2.2.2 (fun e => by have := HLD.out.1 D e; omega)).trans HD12.out)
      have HR13 := Lib.hid hT; have HE13 := Lib.hid hE
      obtain ⟨rr, hr⟩ : ∃ rr, qFlush (⟨(newQ 0).r, tl t, (newQ 0).n, (newQ 0).t⟩ : SqS) = rr := ⟨_, rfl⟩
      have HQ := Lib.hid hr
      change IsSq _ _ _ _ _ _ _ _ at hQ
      rw [hr] at HT13 HR13 HE13 ⊢
      clear hr hQ hT hK hN hE
      obtain ⟨s2, ⟨f0, f1, f2, f3⟩, is⟩ := rr
      go_upto_region 26 with fail
      have hb := (Below.refl w13.heap.size w13).alloc (Nat.le_refl _) (.cells #[.int .i64 f0, .int .i64 f1, .int .i64 f2, .slice E7 f3.length e7] 36)
      have HA14 := Lib.hid (heap_alloc_new w13 (.cells #[.int .i64 f0, .int .i64 f1, .int .i64 f2, .slice E7 f3.length e7] 36))
      have HT14 := Lib.hid (HT13.out.below hb); have HR14 := Lib.hid (HR13.out.below hb); have HD14 := Lib.hid ((hb.block D (blk_lt HD13.out)).trans HD13.out)
      obtain ⟨ab, hab⟩ : ∃ ab, w13.heap.size = ab := ⟨_, rfl⟩
      have HAB := Lib.hid (show D < ab by have := blk_lt HD13.out; omega)
      obtain ⟨w14, hw14⟩ : ∃ V, w13.alloc (.cells #[.int .i64 f0, .int .i64 f1, .int .i64 f2, .slice E7 f3.length e7] 36) = V := ⟨_, rfl⟩
      rw [hw14] at HA14 HT14 HR14 HD14 ⊢
      rw [hab] at HA14 ⊢
      clear hw14 hab hb HT13 HR13 HD13
      go_wp2_with fail
      refine (rflush_is HT14.out.f).mono ?_
      rintro e w15 ⟨C15, d15, E15, rfl, hQ, hT, hK, hN, hE⟩
      obtain ⟨E8, e8, rfl, _⟩ := hT.slice
      have HT15 := Lib.hid (HT14.out.goF hQ hK hN)
      have HD15 := Lib.hid ((hK.block D (blk_lt HD14.out) (fun e => by have := HLD.out.2.1 D e; omega)).trans HD14.out)
      have HA15 := Lib.hid ((hK.block ab (blk_lt HA14.out) (fun e => by have := HLD.out.2.1 ab e; have := HAB.out; omega)).trans HA14.out)
      have HR15 := Lib.hid (HR14.out.keep hK HT14.out.f.out (fun i hi e => by have := HE13.out i hi; have := HLD.out.2.1 i e; have := HLD.out.2.2.2; omega))
      have HV15 := Lib.hid hT
      rw [HQ.out] at HT15 HV15 ⊢
      clear hQ hT hK hN hE HT14 HR14 HD14 HA14
      go_upto_region 27 with fail
      have hb := (Below.refl w15.heap.size w15).alloc (Nat.le_refl _) (.cells #[.int .i64 f0, .int .i64 f1, .int .i64 f2, .slice E8 f3.length e8] 36)
      have HB16 := Lib.hid (heap_alloc_new w15 (.cells #[.int .i64 f0, .int .i64 f1, .int .i64 f2, .slice E8 f3.length e8] 36))
      have HT16 := Lib.hid (HT15.out.below hb); have HR16 := Lib.hid (HR15.out.below hb); have HV16 := Lib.hid (HV15.out.below hb); have HD16 := Lib.hid ((hb.block D (blk_lt HD15.out)).trans HD15.out); have HA16 := Lib.hid ((hb.block ab (blk_lt HA15.out)).trans HA15.out)
      obtain ⟨bb, hbb⟩ : ∃ bb, w15.heap.size = bb := ⟨_, rfl⟩
      obtain ⟨w16, hw16⟩ : ∃ V, w15.alloc (.cells #[.int .i64 f0, .int .i64 f1, .int .i64 f2, .slice E8 f3.length e8] 36) = V := ⟨_, rfl⟩
      rw [hw16] at HB16 HT16 HR16 HV16 HD16 HA16 ⊢
      rw [hbb] at HB16 ⊢
      clear hw16 hbb hb HT15 HR15 HV15 HD15 HA15
      have h4 := refSameEn_is f0 f1 f2 E7 e7 f3 f0 f1 f2 E8 e8 f3 w16 HR16.out.reads.2.2 HR16.out.reads.2.1 HV16.out.reads.2.2 HV16.out.reads.2.1
      rw [eqEn_refl'] at h4
      have H4 := Lib.hid h4
      clear h4
      have q8 : (is == is) = true := by simp
      have u0 : w16.cell? ⟨ab, 0, none⟩ = some (.int .i64 f0) := (blk_cell HA16.out 0).trans rfl
      have u1 : w16.cell? ⟨ab, 1, none⟩ = some (.int .i64 f1) := (blk_cell HA16.out 1).trans rfl
      have u2 : w16.cell? ⟨ab, 2, none⟩ = some (.int .i64 f2) := (blk_cell HA16.out 2).trans rfl
      have u3 : w16.cell? ⟨ab, 3, none⟩ = some (.slice E7 f3.length e7) := (blk_cell HA16.out 3).trans rfl
      have v0 : w16.cell? ⟨bb, 0, none⟩ = some (.int .i64 f0) := (blk_cell HB16.out 0).trans rfl
      have v1 : w16.cell? ⟨bb, 1, none⟩ = some (.int .i64 f1) := (blk_cell HB16.out 1).trans rfl
      have v2 : w16.cell? ⟨bb, 2, none⟩ = some (.int .i64 f2) := (blk_cell HB16.out 2).trans rfl
      have v3 : w16.cell? ⟨bb, 3, none⟩ = some (.slice E8 f3.length e8) := (blk_cell HB16.out 3).trans rfl
      go_wp2_with fail
      refine H4.out.mono ?_
      rintro e w17 ⟨rfl, hb⟩
      have HT17 := Lib.hid (HT16.out.below hb); have HD17 := Lib.hid ((hb.block D (blk_lt HD16.out)).trans HD16.out)
      clear hb H4
      go_wp2_with fail
      refine ⟨by simp, .inl ⟨_, _, rfl, run_takeDeferred HD17.out, ?_⟩⟩
      refine ⟨_, results_tmp rfl _ _ _, ?_⟩
      exact ⟨rfl, HT17.out.d.trans ((keepS_putObj (S := fun i => i = D) (.deferred none) rfl).below HT17.out.le (fun i e => by have := HLD.out.2.2.1; omega))⟩
     end Go.Proofs.Ytgmlpmdfkaadhaa.M
end
