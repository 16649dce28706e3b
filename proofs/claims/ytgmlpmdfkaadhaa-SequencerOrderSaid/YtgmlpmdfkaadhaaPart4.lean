/- SequencerOrderSaid: contracts of the functions that the law goes through, put together in build order (part 5 of 5). -/
import Derived.Test.YtgmlpmdfkaadhaaPart3
set_option linter.unusedVariables false
set_option linter.unusedSimpArgs false
set_option maxRecDepth 100000
section
-- Written by a program of this session's (wip/gprint.py over the kit's printer).
namespace Go.Proofs.Ytgmlpmdfkaadhaa.G
open Go.RowKit Go.Proofs.YtgmlpmdfkaadhaaW.PrintWords Go.Proofs.YtgmlpmdfkaadhaaW.PrintLast Go.Proofs.YtgmlpmdfkaadhaaW.PrintMore
attribute [local go_sem] max2_int min2_int max_two min_two max_three min_three max_four min_four   -- for this text's walks alone
def trivetref04_EntryForm.l0 : Nat → List Int → Int → Int → Int → Int → List (S32) → Option (List Int)
 | 0, _, _, _, _, _, _ => none
 | k + 1, x3, x4, x255000, x255001, x255002, x255003 => if x4 < (x255003.length : Int) then (if 0 ≤ x4 then ((trivetref04_TxnForm.f k ((rd_T32 x255003 x4).f0) ((rd_T32 x255003 x4).f1) ((rd_T32 x255003 x4).f2) ((rd_T32 x255003 x4).f3) ((rd_T32 x255003 x4).f4) ((rd_T32 x255003 x4).f5)).bind fun t268 => (if x3.length + t268.length < 140737488355328 then (trivetref04_EntryForm.l0 k (x3 ++ t268) (wrap64 (x4 + 1)) x255000 x255001 x255002 x255003) else (none))) else (none)) else (some x3)
def trivetref04_EntryForm.f (k : Nat) (a0_0 : Int) (a0_1 : Int) (a0_2 : Int) (l0_3 : List (S32)) : Option (List Int) := (trivetref04_num.f k ([] : List Int) (([a0_0] : List Int))).bind fun t258 => (if a0_0 = 1 then ((trivetref04_num.f k t258 (([a0_1, a0_2, (l0_3.length : Int)] : List Int))).bind fun t264 => (trivetref04_EntryForm.l0 k t264 0 a0_0 a0_1 a0_2 l0_3)) else (some t258))
set_option maxHeartbeats 8000000 in
set_option maxRecDepth 100000 in
theorem trivetref04_EntryForm.calls (k : Nat) (a0_0 : Int) (a0_1 : Int) (a0_2 : Int) (A0_3 : Option Addr) (c0_3 : Nat) (l0_3 : List (S32)) (r : List Int) (w : World) (hr0_3 : Kd.C k32 w A0_3 l0_3.length l0_3) (hc0_3 : l0_3.length ≤ c0_3) (h : trivetref04_EntryForm.f k a0_0 a0_1 a0_2 l0_3 = some r) :
  Calls Try.prog 32 #[.agg #[.int .i64 a0_0, .int .i64 a0_1, .int .i64 a0_2, .slice A0_3 l0_3.length c0_3]] w fun e w' => ∃ v0_ : Value, e = .returned (v0_) ∧ Kd.R (Kd.int .u8) 5 w' w.heap.size (fun _ => True) v0_ r ∧ Below w.heap.size w w' := by
 have hu36 := Try.underlying36
 have hu32 := Try.underlying32
 have HR0_3 := Aside0.mk hr0_3
 have HC0_3 := Aside0.mk hc0_3
 clear hr0_3 hc0_3
 have HB := Aside0.mk (Below.refl w.heap.size w)
 have H : ((trivetref04_num.f k ([] : List Int) (([a0_0] : List Int))).bind fun t258 => (if a0_0 = 1 then ((trivetref04_num.f k t258 (([a0_1, a0_2, (l0_3.length : Int)] : List Int))).bind fun t264 => (trivetref04_EntryForm.l0 k t264 0 a0_0 a0_1 a0_2 l0_3)) else (some t258))) = some r := h
 clear h
 obtain ⟨y255, hy255⟩ : ∃ y_ : List Int, y_ = (([a0_0] : List Int)) := ⟨_, rfl⟩
 replace H : ((trivetref04_num.f k ([] : List Int) y255).bind fun t258 => (if a0_0 = 1 then ((trivetref04_num.f k t258 (([a0_1, a0_2, (l0_3.length : Int)] : List Int))).bind fun t264 => (trivetref04_EntryForm.l0 k t264 0 a0_0 a0_1 a0_2 l0_3)) else (some t258))) = some r := by first | (rw [hy255]; with_reducible exact H) | (have H2_ := (Option.bind_some _ _).symm.trans H; rw [hy255]; with_reducible exact H2_) | (have H2_ := (Option.bind_some _ _).symm.trans H; with_reducible exact H2_) | with_reducible exact H | (rw [hy255]; exact H) | exact H
 have Ny255 := Aside0.mk hy255
 clear hy255
 replace H := Option.bind_eq_some_iff.mp H
 obtain ⟨t258, A20, H⟩ := H
 replace H : (if a0_0 = 1 then ((trivetref04_num.f k t258 (([a0_1, a0_2, (l0_3.length : Int)] : List Int))).bind fun t264 => (trivetref04_EntryForm.l0 k t264 0 a0_0 a0_1 a0_2 l0_3)) else (some t258)) = some r := H
 have A2 := Aside0.mk A20
 clear A20
 by_cases c3 : a0_0 = 1
 ·rw [if_pos c3] at H
  have c3b0 : (a0_0 == 1) = true := beq_iff_eq.mpr c3
  have c3b1 : (a0_0 != 1) = false := bne_eq_false_iff_eq.mpr c3
  clear c3
  obtain ⟨y261, hy261⟩ : ∃ y_ : List Int, y_ = (([a0_1, a0_2, (l0_3.length : Int)] : List Int)) := ⟨_, rfl⟩
  replace H : ((trivetref04_num.f k t258 y261).bind fun t264 => (trivetref04_EntryForm.l0 k t264 0 a0_0 a0_1 a0_2 l0_3)) = some r := by first | (rw [hy261]; with_reducible exact H) | (have H2_ := (Option.bind_some _ _).symm.trans H; rw [hy261]; with_reducible exact H2_) | (have H2_ := (Option.bind_some _ _).symm.trans H; with_reducible exact H2_) | with_reducible exact H | (rw [hy261]; exact H) | exact H
  have Ny261 := Aside0.mk hy261
  clear hy261
  replace H := Option.bind_eq_some_iff.mp H
  obtain ⟨t264, A40, H⟩ := H
  replace H : (trivetref04_EntryForm.l0 k t264 0 a0_0 a0_1 a0_2 l0_3) = some r := H
  have A4 := Aside0.mk A40
  clear A40
  have H' := Aside0.mk H
  clear H
  go_enter Try.func32, Try.ntmps32
  go_wp2_with (first | ((with_reducible refine gate_dst (N := 1) rfl ?_); refine box_event ?hg (N := 1) ?hd (cs := #[.int .i64 a0_0, .int .i64 a0_1, .int .i64 a0_2, .slice A0_3 l0_3.length c0_3]) (t := 36) ?hr ?_; (case hd => rfl); (case hg => rfl); (case hr => first | (go_simp; done) | (go_simp; rfl)); intro gb254 hg w5 hbox hb; have n0_ := Aside0.mk (below_step (stB HB.out) hb); have n1_ := Aside0.mk (hbox); have n2_ := Aside0.mk ((by rw [hg]; exact (below_size (stB HB.out)) : w.heap.size ≤ gb254)); have n3_ := Aside0.mk ((by rw [hg]; exact (below_size (stB HB.out)) : w.heap.size ≤ gb254)); clear HB; have HB := n0_; have BK254 := n1_; have GW254 := n2_; have GE254 := n3_; clear n0_ n1_ n2_ n3_; clear hb hbox hg; obtain ⟨hcz6_0, hcz6_1, hcz6_2, hcz6_3⟩ := bc4 BK254.out; obtain ⟨hfz6_0, hfz6_1, hfz6_2, hfz6_3⟩ := bf4 BK254.out) | ((with_reducible refine gate_dst (N := 7) rfl ?_); refine Kd.R_lit (Kd.int .i64) _ 2 ?hg (N := 7) ?hd (xs := ([a0_0] : List Int)) (inner := [.int .i64 a0_0]) (ok := fun _ => True) (okp := fun _ => True) ?hr ?hp (fun _ hk => hk) trivial (Below.refl _ _) (Nat.le_refl _) (by simp) ?_; (case hd => rfl); (case hg => rfl); (case hr => first | (go_simp; done) | (go_simp; rfl)); (case hp => exact (Reps.one (show Kd.M (Kd.int .i64) _ _ _ a0_0 [.int .i64 a0_0] from rfl) (Reps.none _ _))); intro v256 w7 ho8 hb hg_ hnew_; clear hg_ hnew_; (first | rw [← Ny255.out] at ho8 | (simp only [Int.reduceToNat] at ho8; rw [← Ny255.out] at ho8)); have n0_ := Aside0.mk (Kd.R_lower ho8 (below_size (by repeat (first | (with_reducible first | exact HB.out | apply below_alloc | apply pw_below_drewN | apply below_drew1 | refine below_set ?_ GE254.out) | exact HB.out)))); have n1_ := Aside0.mk (blk_below (g := gb254) (o := .cells #[.int .i64 a0_0, .int .i64 a0_1, .int .i64 a0_2, .slice A0_3 l0_3.length c0_3] 36 (0, 0)) (stK BK254.out) hb); have n2_ := Aside0.mk (below_step (by repeat (first | (with_reducible first | exact HB.out | apply below_alloc | apply pw_below_drewN | apply below_drew1 | refine below_set ?_ GE254.out) | exact HB.out)) hb); clear BK254; clear HB; have HO257 := n0_; have BK254 := n1_; have HB := n2_; clear n0_ n1_ n2_; clear hb ho8; obtain ⟨Ao9, co9, eo9⟩ := Kd.R_slice HO257.out; subst eo9) | ((with_reducible refine gate_callee (f := 51) rfl ?_); refine goesL_ (some 8) rfl rfl Try.func51 (by kernel_rfl) rfl #[.slice none 0 0, .slice Ao9 y255.length co9] rfl (by (try simp only [List.map_toArray, List.map_cons, List.map_nil]); first | done | rfl | (simp only [List.length_drop, List.length_take]; rfl)) ?_; (refine (trivetref04_num.calls k _ _ ([] : List Int) _ _ y255 t258 _ ?side1 ?side2 ?side3 ?side4 A2.out).mono ?_); (case side1 => exact Kd.C_nil _ _); (case side2 => exact Nat.le_refl _); (case side3 => exact stC ((Kd.R_reads' HO257.out).2.2)); (case side4 => exact (Kd.R_reads' HO257.out).2.1); rintro e w10 ⟨v259, rfl, ho0, hb⟩; refine ⟨_, rfl, ?_⟩; have n0_ := Aside0.mk (Kd.R_below (stR HO257.out) hb); have n1_ := Aside0.mk (Kd.R_lower ho0 (below_size (by repeat (first | (with_reducible first | exact HB.out | apply below_alloc | apply pw_below_drewN | apply below_drew1 | refine below_set ?_ GE254.out) | exact HB.out)))); have n2_ := Aside0.mk (blk_below (g := gb254) (o := .cells #[.int .i64 a0_0, .int .i64 a0_1, .int .i64 a0_2, .slice A0_3 l0_3.length c0_3] 36 (0, 0)) (stK BK254.out) hb); have n3_ := Aside0.mk (below_step (by repeat (first | (with_reducible first | exact HB.out | apply below_alloc | apply pw_below_drewN | apply below_drew1 | refine below_set ?_ GE254.out) | exact HB.out)) hb); clear HO257; clear BK254; clear HB; have HO257 := n0_; have HO260 := n1_; have BK254 := n2_; have HB := n3_; clear n0_ n1_ n2_ n3_; (try clear hb); (try clear hb2); (try clear hk); (try clear hi); (try clear ho0); obtain ⟨hcz11_0, hcz11_1, hcz11_2, hcz11_3⟩ := bc4 BK254.out; obtain ⟨hfz11_0, hfz11_1, hfz11_2, hfz11_3⟩ := bf4 BK254.out) | ((with_reducible refine gate_dst (N := 21) rfl ?_); refine Kd.R_lit (Kd.int .i64) _ 2 ?hg (N := 21) ?hd (xs := ([a0_1, a0_2, (l0_3.length : Int)] : List Int)) (inner := [.int .i64 a0_1, .int .i64 a0_2, .int .i64 (l0_3.length : Int)]) (ok := fun _ => True) (okp := fun _ => True) ?hr ?hp (fun _ hk => hk) trivial (Below.refl _ _) (Nat.le_refl _) (by simp) ?_; (case hd => rfl); (case hg => rfl); (case hr => first | (go_simp; done) | (go_simp; rfl)); (case hp => exact (Reps.one (show Kd.M (Kd.int .i64) _ _ _ a0_1 [.int .i64 a0_1] from rfl) (Reps.one (show Kd.M (Kd.int .i64) _ _ _ a0_2 [.int .i64 a0_2] from rfl) (Reps.one (show Kd.M (Kd.int .i64) _ _ _ (l0_3.length : Int) [.int .i64 (l0_3.length : Int)] from rfl) (Reps.none _ _))))); intro v262 w12 ho13 hb hg_ hnew_; clear hg_ hnew_; (first | rw [← Ny261.out] at ho13 | (simp only [Int.reduceToNat] at ho13; rw [← Ny261.out] at ho13)); have n0_ := Aside0.mk (Kd.R_elder' (stR HO257.out) (Kd.R_base ho13) hb); have n1_ := Aside0.mk (Kd.R_below (stR HO260.out) hb); have n2_ := Aside0.mk (Kd.R_lower (Kd.R_new' ho13 (Kd.R_lt (stR HO257.out))) (below_size (by repeat (first | (with_reducible first | exact HB.out | apply below_alloc | apply pw_below_drewN | apply below_drew1 | refine below_set ?_ GE254.out) | exact HB.out)))); have n3_ := Aside0.mk (blk_below (g := gb254) (o := .cells #[.int .i64 a0_0, .int .i64 a0_1, .int .i64 a0_2, .slice A0_3 l0_3.length c0_3] 36 (0, 0)) (stK BK254.out) hb); have n4_ := Aside0.mk (below_step (by repeat (first | (with_reducible first | exact HB.out | apply below_alloc | apply pw_below_drewN | apply below_drew1 | refine below_set ?_ GE254.out) | exact HB.out)) hb); clear HO257; clear HO260; clear BK254; clear HB; have HO257 := n0_; have HO260 := n1_; have HO263 := n2_; have BK254 := n3_; have HB := n4_; clear n0_ n1_ n2_ n3_ n4_; clear hb ho13; obtain ⟨Ao14, co14, eo14⟩ := Kd.R_slice HO260.out; subst eo14; obtain ⟨Ao15, co15, eo15⟩ := Kd.R_slice HO263.out; subst eo15) | ((with_reducible refine gate_callee (f := 51) rfl ?_); refine goesL_ (some 22) rfl rfl Try.func51 (by kernel_rfl) rfl #[.slice Ao14 t258.length co14, .slice Ao15 y261.length co15] rfl (by (try simp only [List.map_toArray, List.map_cons, List.map_nil]); first | done | rfl | (simp only [List.length_drop, List.length_take]; rfl)) ?_; (with_reducible refine (trivetref04_num.calls k _ _ t258 _ _ y261 t264 _ ?side1 ?side2 ?side3 ?side4 A4.out).mono ?_); (case side1 => exact stC ((Kd.R_reads' HO260.out).2.2)); (case side2 => exact (Kd.R_reads' HO260.out).2.1); (case side3 => exact stC ((Kd.R_reads' HO263.out).2.2)); (case side4 => exact (Kd.R_reads' HO263.out).2.1); rintro e w16 ⟨v265, rfl, ho0, hb⟩; refine ⟨_, rfl, ?_⟩; have n0_ := Aside0.mk (Kd.R_below (stR HO257.out) hb); have n1_ := Aside0.mk (Kd.R_elder' (stR HO260.out) (Kd.R_base ho0) hb); have n2_ := Aside0.mk (Kd.R_below (stR HO263.out) hb); have n3_ := Aside0.mk (Kd.R_lower (Kd.R_new' ho0 (Kd.R_lt (stR HO260.out))) (below_size (by repeat (first | (with_reducible first | exact HB.out | apply below_alloc | apply pw_below_drewN | apply below_drew1 | refine below_set ?_ GE254.out) | exact HB.out)))); have n4_ := Aside0.mk (blk_below (g := gb254) (o := .cells #[.int .i64 a0_0, .int .i64 a0_1, .int .i64 a0_2, .slice A0_3 l0_3.length c0_3] 36 (0, 0)) (stK BK254.out) hb); have n5_ := Aside0.mk (below_step (by repeat (first | (with_reducible first | exact HB.out | apply below_alloc | apply pw_below_drewN | apply below_drew1 | refine below_set ?_ GE254.out) | exact HB.out)) hb); clear HO257; clear HO260; clear HO263; clear BK254; clear HB; have HO257 := n0_; have HO260 := n1_; have HO263 := n2_; have HO266 := n3_; have BK254 := n4_; have HB := n5_; clear n0_ n1_ n2_ n3_ n4_ n5_; (try clear hb); (try clear hb2); (try clear hk); (try clear hi); (try clear ho0)))
  go_loopg [3, 4] k (fun kq v3 v4 w' => ∃ (x3_1 : List Int) (x4_1 : Int), v4 = .int .i64 x4_1 ∧ Aside0 (trivetref04_EntryForm.l0 kq x3_1 x4_1 a0_0 a0_1 a0_2 l0_3 = some r) ∧ Aside0 (kq ≤ k) ∧ Aside0 (Kd.R (Kd.int .u8) 5 w' w.heap.size (fun _ => True) v3 x3_1) ∧ Aside0 (w'.heap[gb254]? = some (.cells #[.int .i64 a0_0, .int .i64 a0_1, .int .i64 a0_2, (.slice A0_3 l0_3.length c0_3)] 36 (0, 0))) ∧ Aside0 (Below w.heap.size w w'))
  case atStart => exact ⟨(t264), (0), (by first | rfl | (simp; done) | (simp [*]; done)), H', ⟨Nat.le_refl _⟩, ⟨by (with_reducible repeat (first|apply Kd.R_alloc | apply Kd.R_drewN | apply Kd.R_drew)); exact Kd.R_mono HO266.out (fun _ hk => trivial)⟩, ⟨stK BK254.out⟩, ⟨by repeat (first | (with_reducible first | exact HB.out | apply below_alloc | apply pw_below_drewN | apply below_drew1 | refine below_set ?_ GE254.out) | exact HB.out)⟩⟩
  case round =>
   clear H'
   try clear p2
   try clear c3
   try clear c3b0
   try clear c3b1
   try clear c5
   try clear hcz11_0
   try clear hcz11_1
   try clear hcz11_2
   try clear hcz11_3
   try clear hcz6_0
   try clear hcz6_1
   try clear hcz6_2
   try clear hcz6_3
   try clear hfz11_0
   try clear hfz11_1
   try clear hfz11_2
   try clear hfz11_3
   try clear hfz6_0
   try clear hfz6_1
   try clear hfz6_2
   try clear hfz6_3
   obtain ⟨x3_1, x4_1, rfl, HA, HK1, HO_3, BK254, HB⟩ := hrel
   cases gk with
   | zero => exact absurd HA.out (by simp [trivetref04_EntryForm.l0])
   | succ k1 =>
    have H := HA.out
    clear HA
    simp only [trivetref04_EntryForm.l0] at H
    by_cases c17 : x4_1 < (l0_3.length : Int)
    ·rw [if_pos c17] at H
     have c17b0 : decide (x4_1 < (l0_3.length : Int)) = true := decide_eq_true c17
     clear c17
     by_cases c18 : 0 ≤ x4_1
     ·rw [if_pos c18] at H
      have c18b0 : decide (0 ≤ x4_1) = true := decide_eq_true c18
      clear c18
      replace H := Option.bind_eq_some_iff.mp H
      obtain ⟨t268, A190, H⟩ := H
      replace H : (if x3_1.length + t268.length < 140737488355328 then (trivetref04_EntryForm.l0 k1 (x3_1 ++ t268) (wrap64 (x4_1 + 1)) a0_0 a0_1 a0_2 l0_3) else (none)) = some r := H
      have A19 := Aside0.mk A190
      clear A190
      by_cases c20 : x3_1.length + t268.length < 140737488355328
      ·rw [if_pos c20] at H
       have LMc20 := Aside0.mk c20
       clear c20
       obtain ⟨y271, hy271⟩ : ∃ y_ : List Int, y_ = (x3_1 ++ t268) := ⟨_, rfl⟩
       replace H : (trivetref04_EntryForm.l0 k1 y271 (wrap64 (x4_1 + 1)) a0_0 a0_1 a0_2 l0_3) = some r := by first | (rw [hy271]; with_reducible exact H) | (have H2_ := (Option.bind_some _ _).symm.trans H; rw [hy271]; with_reducible exact H2_) | (have H2_ := (Option.bind_some _ _).symm.trans H; with_reducible exact H2_) | with_reducible exact H | (rw [hy271]; exact H) | exact H
       have Ny271 := Aside0.mk hy271
       clear hy271
       have H' := Aside0.mk H
       clear H
       obtain ⟨hcz21_0, hcz21_1, hcz21_2, hcz21_3⟩ := bc4 BK254.out
       obtain ⟨hfz21_0, hfz21_1, hfz21_2, hfz21_3⟩ := bf4 BK254.out
       have p267 : 0 ≤ (x4_1 : Int) := of_decide_eq_true (by first | (with_reducible assumption) | assumption)
       have q267 : x4_1 < (l0_3.length : Int) := of_decide_eq_true (by first | (with_reducible assumption) | assumption)
       obtain ⟨ad267, A267_2, c267_2, A267_3, c267_3, A267_4, c267_4, A267_5, c267_5, e267, hx267_0, hx267_1, hx267_2, hx267_3, hx267_4, hx267_5, hl267_2, hi267_2, hl267_3, hi267_3, hl267_4, hi267_4, hl267_5, hi267_5⟩ := at_T32 HR0_3.out x4_1 p267 q267
       cases e267
       replace hx267_0 := cu HB.out hx267_0
       replace hx267_1 := cu HB.out hx267_1
       replace hx267_2 := cu HB.out hx267_2
       replace hx267_3 := cu HB.out hx267_3
       replace hx267_4 := cu HB.out hx267_4
       replace hx267_5 := cu HB.out hx267_5
       have HR267_2 := Aside0.mk hi267_2
       have HC267_2 := Aside0.mk hl267_2
       clear hi267_2 hl267_2
       have HR267_3 := Aside0.mk hi267_3
       have HC267_3 := Aside0.mk hl267_3
       clear hi267_3 hl267_3
       have HR267_4 := Aside0.mk hi267_4
       have HC267_4 := Aside0.mk hl267_4
       clear hi267_4 hl267_4
       have HR267_5 := Aside0.mk hi267_5
       have HC267_5 := Aside0.mk hl267_5
       clear hi267_5 hl267_5
       replace p267 := eq_true p267
       replace q267 := eq_true q267
       go_wp2_with (first | ((with_reducible refine gate_callee (f := 52) rfl ?_); refine goesL_ (some 36) rfl rfl Try.func52 (by kernel_rfl) rfl #[.agg #[.int .i64 ((rd_T32 l0_3 x4_1).f0), .int .i64 ((rd_T32 l0_3 x4_1).f1), .slice A267_2 ((rd_T32 l0_3 x4_1).f2).length c267_2, .slice A267_3 ((rd_T32 l0_3 x4_1).f3).length c267_3, .slice A267_4 ((rd_T32 l0_3 x4_1).f4).length c267_4, .slice A267_5 ((rd_T32 l0_3 x4_1).f5).length c267_5]] rfl (by (try simp only [List.map_toArray, List.map_cons, List.map_nil]); first | done | rfl | (simp only [List.length_drop, List.length_take]; rfl)) ?_; (with_reducible refine (trivetref04_TxnForm.calls k1 ((rd_T32 l0_3 x4_1).f0) ((rd_T32 l0_3 x4_1).f1) _ _ ((rd_T32 l0_3 x4_1).f2) _ _ ((rd_T32 l0_3 x4_1).f3) _ _ ((rd_T32 l0_3 x4_1).f4) _ _ ((rd_T32 l0_3 x4_1).f5) t268 _ ?side1 ?side2 ?side3 ?side4 ?side5 ?side6 ?side7 ?side8 A19.out).mono ?_); (case side1 => exact stC (Kd.C_below HR267_2.out HB.out)); (case side2 => exact HC267_2.out); (case side3 => exact stC (Kd.C_below HR267_3.out HB.out)); (case side4 => exact HC267_3.out); (case side5 => exact stC (Kd.C_below HR267_4.out HB.out)); (case side6 => exact HC267_4.out); (case side7 => exact stC (Kd.C_below HR267_5.out HB.out)); (case side8 => exact HC267_5.out); rintro e w22 ⟨v269, rfl, ho0, hb⟩; refine ⟨_, rfl, ?_⟩; have n0_ := Aside0.mk (Kd.R_elder' (stR HO_3.out) (Kd.R_base ho0) hb); have n1_ := Aside0.mk (Kd.R_lower (Kd.R_new' ho0 (Kd.R_lt (stR HO_3.out))) (below_size (by repeat (first | (with_reducible first | exact HB.out | apply below_alloc | apply pw_below_drewN | apply below_drew1 | refine below_set ?_ GE254.out) | exact HB.out)))); have n2_ := Aside0.mk (blk_below (g := gb254) (o := .cells #[.int .i64 a0_0, .int .i64 a0_1, .int .i64 a0_2, .slice (some ad267) l0_3.length c0_3] 36 (0, 0)) (stK BK254.out) hb); have n3_ := Aside0.mk (below_step (by repeat (first | (with_reducible first | exact HB.out | apply below_alloc | apply pw_below_drewN | apply below_drew1 | refine below_set ?_ GE254.out) | exact HB.out)) hb); clear HO_3; clear BK254; clear HB; have HO_3 := n0_; have HO270 := n1_; have BK254 := n2_; have HB := n3_; clear n0_ n1_ n2_ n3_; (try clear hb); (try clear hb2); (try clear hk); (try clear hi); (try clear ho0); obtain ⟨Ao24, co24, eo24⟩ := Kd.R_slice HO270.out; subst eo24) | ((with_reducible refine gate_builtin (b := .append) (xs := #[.tmp 30, .tmp 36]) rfl ?_); at_builtin; refine Kd.R_append_rows (Kd.int .u8) (w0 := w) w.heap.size rfl (.tmp 30) (.tmp 36) 28 5 (.int .u8 0) 1 rfl Try.underlying28 info5 rfl (by decide) (by omega) u3 x3_1 t268 _ _ _ (fun k_ => some k_ ≠ (.slice Ao24 t268.length co24 : Value).ownBlock) (fun _ => False) rfl rfl ?aO ?aR (fun _ _ h => h) (fun _ h => h.elim) ?aF ?aB ?aS ?aL ?_; (case aR => exact stC ((Kd.R_reads' HO270.out).2.2)); (case aB => exact (by repeat (first | (with_reducible first | exact HB.out | apply below_alloc | apply pw_below_drewN | apply below_drew1 | refine below_set ?_ GE254.out) | exact HB.out))); (case aF => exact (fun k_ hk => Kd.fresh' (Kd.R_lt (stR HO270.out)) k_ hk)); (case aO => exact (by (with_reducible repeat (first|apply Kd.R_alloc | apply Kd.R_drewN | apply Kd.R_drew)); exact Kd.R_mono HO_3.out (fun _ hk => hk.2))); (case aS => exact (below_size (by repeat (first | (with_reducible first | exact HB.out | apply below_alloc | apply pw_below_drewN | apply below_drew1 | refine below_set ?_ GE254.out) | exact HB.out)))); (case aL => have := LMc20.out; omega); intro v272 w23 ho hb hg hat; rw [← Ny271.out] at ho; have n0_ := Aside0.mk (blk_grown (g := gb254) (o := .cells #[.int .i64 a0_0, .int .i64 a0_1, .int .i64 a0_2, .slice (some ad267) l0_3.length c0_3] 36 (0, 0)) (stK BK254.out) hg (Kd.R_ne HO_3.out BK254.out (by decide))); have n1_ := Aside0.mk (Kd.R_after (ok := (fun _ => True)) (stR HO270.out) hg hat); have n2_ := Aside0.mk (hb); have n3_ := Aside0.mk (ho); clear BK254; clear HO270; clear HB; clear HO_3; have BK254 := n0_; have HO270 := n1_; have HB := n2_; have HO273 := n3_; clear n0_ n1_ n2_ n3_; clear ho hb hg hat))
       go_roundg k1
       case measure => have := HK1.out; omega
       case rel => exact ⟨(y271), (wrap64 (x4_1 + 1)), (by first | rfl | (simp; done) | (simp [*]; done)), H', ⟨by have := HK1.out; omega⟩, ⟨by (with_reducible repeat (first|apply Kd.R_alloc | apply Kd.R_drewN | apply Kd.R_drew)); exact Kd.R_mono HO273.out (fun _ hk => trivial)⟩, ⟨stK BK254.out⟩, ⟨by repeat (first | (with_reducible first | exact HB.out | apply below_alloc | apply pw_below_drewN | apply below_drew1 | refine below_set ?_ GE254.out) | exact HB.out)⟩⟩
      ·rw [if_neg c20] at H
       exact absurd H (by simp)
     ·rw [if_neg c18] at H
      exact absurd H (by simp)
    ·rw [if_neg c17] at H
     have c17b0 : decide (x4_1 < (l0_3.length : Int)) = false := decide_eq_false c17
     clear c17
     obtain rfl := Option.some.inj H
     obtain ⟨hcz25_0, hcz25_1, hcz25_2, hcz25_3⟩ := bc4 BK254.out
     obtain ⟨hfz25_0, hfz25_1, hfz25_2, hfz25_3⟩ := bf4 BK254.out
     go_wp2
     go_ret
     exact ⟨_, by first | rfl | (simp [errW_none, errW_some] <;> rfl) | (simp [*, errW_none, errW_some] <;> rfl), stR HO_3.out, by repeat (first | (with_reducible first | exact HB.out | apply below_alloc | apply pw_below_drewN | apply below_drew1 | refine below_set ?_ GE254.out) | exact HB.out)⟩
 ·rw [if_neg c3] at H
  have c3b0 : (a0_0 == 1) = false := beq_eq_false_iff_ne.mpr c3
  have c3b1 : (a0_0 != 1) = true := bne_iff_ne.mpr c3
  obtain rfl := Option.some.inj H
  go_enter Try.func32, Try.ntmps32
  go_wp2_with (first | ((with_reducible refine gate_dst (N := 1) rfl ?_); refine box_event ?hg (N := 1) ?hd (cs := #[.int .i64 a0_0, .int .i64 a0_1, .int .i64 a0_2, .slice A0_3 l0_3.length c0_3]) (t := 36) ?hr ?_; (case hd => rfl); (case hg => rfl); (case hr => first | (go_simp; done) | (go_simp; rfl)); intro gb254 hg w26 hbox hb; have n0_ := Aside0.mk (below_step (stB HB.out) hb); have n1_ := Aside0.mk (hbox); have n2_ := Aside0.mk ((by rw [hg]; exact (below_size (stB HB.out)) : w.heap.size ≤ gb254)); have n3_ := Aside0.mk ((by rw [hg]; exact (below_size (stB HB.out)) : w.heap.size ≤ gb254)); clear HB; have HB := n0_; have BK254 := n1_; have GW254 := n2_; have GE254 := n3_; clear n0_ n1_ n2_ n3_; clear hb hbox hg; obtain ⟨hcz27_0, hcz27_1, hcz27_2, hcz27_3⟩ := bc4 BK254.out; obtain ⟨hfz27_0, hfz27_1, hfz27_2, hfz27_3⟩ := bf4 BK254.out) | ((with_reducible refine gate_dst (N := 7) rfl ?_); refine Kd.R_lit (Kd.int .i64) _ 2 ?hg (N := 7) ?hd (xs := ([a0_0] : List Int)) (inner := [.int .i64 a0_0]) (ok := fun _ => True) (okp := fun _ => True) ?hr ?hp (fun _ hk => hk) trivial (Below.refl _ _) (Nat.le_refl _) (by simp) ?_; (case hd => rfl); (case hg => rfl); (case hr => first | (go_simp; done) | (go_simp; rfl)); (case hp => exact (Reps.one (show Kd.M (Kd.int .i64) _ _ _ a0_0 [.int .i64 a0_0] from rfl) (Reps.none _ _))); intro v256 w28 ho29 hb hg_ hnew_; clear hg_ hnew_; (first | rw [← Ny255.out] at ho29 | (simp only [Int.reduceToNat] at ho29; rw [← Ny255.out] at ho29)); have n0_ := Aside0.mk (Kd.R_lower ho29 (below_size (by repeat (first | (with_reducible first | exact HB.out | apply below_alloc | apply pw_below_drewN | apply below_drew1 | refine below_set ?_ GE254.out) | exact HB.out)))); have n1_ := Aside0.mk (blk_below (g := gb254) (o := .cells #[.int .i64 a0_0, .int .i64 a0_1, .int .i64 a0_2, .slice A0_3 l0_3.length c0_3] 36 (0, 0)) (stK BK254.out) hb); have n2_ := Aside0.mk (below_step (by repeat (first | (with_reducible first | exact HB.out | apply below_alloc | apply pw_below_drewN | apply below_drew1 | refine below_set ?_ GE254.out) | exact HB.out)) hb); clear BK254; clear HB; have HO257 := n0_; have BK254 := n1_; have HB := n2_; clear n0_ n1_ n2_; clear hb ho29; obtain ⟨Ao30, co30, eo30⟩ := Kd.R_slice HO257.out; subst eo30) | ((with_reducible refine gate_callee (f := 51) rfl ?_); refine goesL_ (some 8) rfl rfl Try.func51 (by kernel_rfl) rfl #[.slice none 0 0, .slice Ao30 y255.length co30] rfl (by (try simp only [List.map_toArray, List.map_cons, List.map_nil]); first | done | rfl | (simp only [List.length_drop, List.length_take]; rfl)) ?_; (refine (trivetref04_num.calls k _ _ ([] : List Int) _ _ y255 t258 _ ?side1 ?side2 ?side3 ?side4 A2.out).mono ?_); (case side1 => exact Kd.C_nil _ _); (case side2 => exact Nat.le_refl _); (case side3 => exact stC ((Kd.R_reads' HO257.out).2.2)); (case side4 => exact (Kd.R_reads' HO257.out).2.1); rintro e w31 ⟨v259, rfl, ho0, hb⟩; refine ⟨_, rfl, ?_⟩; have n0_ := Aside0.mk (Kd.R_below (stR HO257.out) hb); have n1_ := Aside0.mk (Kd.R_lower ho0 (below_size (by repeat (first | (with_reducible first | exact HB.out | apply below_alloc | apply pw_below_drewN | apply below_drew1 | refine below_set ?_ GE254.out) | exact HB.out)))); have n2_ := Aside0.mk (blk_below (g := gb254) (o := .cells #[.int .i64 a0_0, .int .i64 a0_1, .int .i64 a0_2, .slice A0_3 l0_3.length c0_3] 36 (0, 0)) (stK BK254.out) hb); have n3_ := Aside0.mk (below_step (by repeat (first | (with_reducible first | exact HB.out | apply below_alloc | apply pw_below_drewN | apply below_drew1 | refine below_set ?_ GE254.out) | exact HB.out)) hb); clear HO257; clear BK254; clear HB; have HO257 := n0_; have HO260 := n1_; have BK254 := n2_; have HB := n3_; clear n0_ n1_ n2_ n3_; (try clear hb); (try clear hb2); (try clear hk); (try clear hi); (try clear ho0); obtain ⟨hcz32_0, hcz32_1, hcz32_2, hcz32_3⟩ := bc4 BK254.out; obtain ⟨hfz32_0, hfz32_1, hfz32_2, hfz32_3⟩ := bf4 BK254.out))
  go_ret
  exact ⟨_, by first | rfl | (simp [errW_none, errW_some] <;> rfl) | (simp [*, errW_none, errW_some] <;> rfl), stR HO260.out, by repeat (first | (with_reducible first | exact HB.out | apply below_alloc | apply pw_below_drewN | apply below_drew1 | refine below_set ?_ GE254.out) | exact HB.out)⟩
def trivetref04_Entry.f (k : Nat) (a0_0 : Int) (a0_1 : Int) (a0_2 : Int) (l0_3 : List (S32)) : Option (List Int × Int) := (trivetref04_MayEntry.f k a0_0 a0_1 a0_2 l0_3).bind fun t275 => (if t275 = true then ((trivetref04_EntryForm.f k a0_0 a0_1 a0_2 l0_3).bind fun t276 => (if (t276.length : Int) > 1048576 then (some (([] : List Int), 3)) else (some (t276, 0)))) else (some (([] : List Int), 40)))
set_option maxHeartbeats 8000000 in
set_option maxRecDepth 100000 in
theorem trivetref04_Entry.calls (k : Nat) (a0_0 : Int) (a0_1 : Int) (a0_2 : Int) (A0_3 : Option Addr) (c0_3 : Nat) (l0_3 : List (S32)) (r1 : List Int) (r2 : Int) (w : World) (hr0_3 : Kd.C k32 w A0_3 l0_3.length l0_3) (hc0_3 : l0_3.length ≤ c0_3) (h : trivetref04_Entry.f k a0_0 a0_1 a0_2 l0_3 = some (r1, r2)) :
  Calls Try.prog 13 #[.agg #[.int .i64 a0_0, .int .i64 a0_1, .int .i64 a0_2, .slice A0_3 l0_3.length c0_3]] w fun e w' => ∃ v0_ : Value, e = .returned (.tuple #[v0_, .int .i64 r2]) ∧ Kd.R (Kd.int .u8) 5 w' w.heap.size (fun _ => True) v0_ r1 ∧ Below w.heap.size w w' := by
 have hu36 := Try.underlying36
 have HR0_3 := Aside0.mk hr0_3
 have HC0_3 := Aside0.mk hc0_3
 clear hr0_3 hc0_3
 have HB := Aside0.mk (Below.refl w.heap.size w)
 have H : ((trivetref04_MayEntry.f k a0_0 a0_1 a0_2 l0_3).bind fun t275 => (if t275 = true then ((trivetref04_EntryForm.f k a0_0 a0_1 a0_2 l0_3).bind fun t276 => (if (t276.length : Int) > 1048576 then (some (([] : List Int), 3)) else (some (t276, 0)))) else (some (([] : List Int), 40)))) = some (r1, r2) := h
 clear h
 replace H := Option.bind_eq_some_iff.mp H
 obtain ⟨t275, A20, H⟩ := H
 replace H : (if t275 = true then ((trivetref04_EntryForm.f k a0_0 a0_1 a0_2 l0_3).bind fun t276 => (if (t276.length : Int) > 1048576 then (some (([] : List Int), 3)) else (some (t276, 0)))) else (some (([] : List Int), 40))) = some (r1, r2) := H
 have A2 := Aside0.mk A20
 clear A20
 by_cases c3 : t275 = true
 ·subst c3
  have H1 : ((trivetref04_EntryForm.f k a0_0 a0_1 a0_2 l0_3).bind fun t276 => (if (t276.length : Int) > 1048576 then (some (([] : List Int), 3)) else (some (t276, 0)))) = some (r1, r2) := by rw [if_pos rfl] at H; exact H
  clear H
  have H := H1
  clear H1
  replace H := Option.bind_eq_some_iff.mp H
  obtain ⟨t276, A40, H⟩ := H
  replace H : (if (t276.length : Int) > 1048576 then (some (([] : List Int), 3)) else (some (t276, 0))) = some (r1, r2) := H
  have A4 := Aside0.mk A40
  clear A40
  by_cases c5 : (t276.length : Int) > 1048576
  ·rw [if_pos c5] at H
   have c5b0 : decide (1048576 < (t276.length : Int)) = true := decide_eq_true c5
   have c5b1 : decide (1048576 < t276.length) = true := decide_eq_true (by omega)
   clear c5
   simp only [Option.some.injEq, Prod.mk.injEq] at H
   obtain ⟨rfl, rfl⟩ := H
   go_enter Try.func13, Try.ntmps13
   go_wp2_with (first | ((with_reducible refine gate_dst (N := 1) rfl ?_); refine box_event ?hg (N := 1) ?hd (cs := #[.int .i64 a0_0, .int .i64 a0_1, .int .i64 a0_2, .slice A0_3 l0_3.length c0_3]) (t := 36) ?hr ?_; (case hd => rfl); (case hg => rfl); (case hr => first | (go_simp; done) | (go_simp; rfl)); intro gb274 hg w6 hbox hb; have n0_ := Aside0.mk (below_step (stB HB.out) hb); have n1_ := Aside0.mk (hbox); have n2_ := Aside0.mk ((by rw [hg]; exact (below_size (stB HB.out)) : w.heap.size ≤ gb274)); have n3_ := Aside0.mk ((by rw [hg]; exact (below_size (stB HB.out)) : w.heap.size ≤ gb274)); clear HB; have HB := n0_; have BK274 := n1_; have GW274 := n2_; have GE274 := n3_; clear n0_ n1_ n2_ n3_; clear hb hbox hg; obtain ⟨hcz7_0, hcz7_1, hcz7_2, hcz7_3⟩ := bc4 BK274.out; obtain ⟨hfz7_0, hfz7_1, hfz7_2, hfz7_3⟩ := bf4 BK274.out) | ((with_reducible refine gate_callee (f := 31) rfl ?_); refine goesL_ (some 6) rfl rfl Try.func31 (by kernel_rfl) rfl #[.agg #[.int .i64 a0_0, .int .i64 a0_1, .int .i64 a0_2, .slice A0_3 l0_3.length c0_3]] rfl (by (try simp only [List.map_toArray, List.map_cons, List.map_nil]); first | done | rfl | (simp only [List.length_drop, List.length_take]; rfl)) ?_; (with_reducible refine (trivetref04_MayEntry.calls k a0_0 a0_1 a0_2 _ _ l0_3 true _ ?side1 ?side2 A2.out).mono ?_); (case side1 => exact stC (Kd.C_below HR0_3.out HB.out)); (case side2 => exact HC0_3.out); rintro e w8 ⟨rfl, hb⟩; refine ⟨_, rfl, ?_⟩; have n0_ := Aside0.mk (blk_below (g := gb274) (o := .cells #[.int .i64 a0_0, .int .i64 a0_1, .int .i64 a0_2, .slice A0_3 l0_3.length c0_3] 36 (0, 0)) (stK BK274.out) hb); have n1_ := Aside0.mk (below_step (by repeat (first | (with_reducible first | exact HB.out | apply below_alloc | apply pw_below_drewN | apply below_drew1 | refine below_set ?_ GE274.out) | exact HB.out)) hb); clear BK274; clear HB; have BK274 := n0_; have HB := n1_; clear n0_ n1_; (try clear hb); (try clear hb2); (try clear hk); (try clear hi); obtain ⟨hcz9_0, hcz9_1, hcz9_2, hcz9_3⟩ := bc4 BK274.out; obtain ⟨hfz9_0, hfz9_1, hfz9_2, hfz9_3⟩ := bf4 BK274.out) | ((with_reducible refine gate_callee (f := 32) rfl ?_); refine goesL_ (some 9) rfl rfl Try.func32 (by kernel_rfl) rfl #[.agg #[.int .i64 a0_0, .int .i64 a0_1, .int .i64 a0_2, .slice A0_3 l0_3.length c0_3]] rfl (by (try simp only [List.map_toArray, List.map_cons, List.map_nil]); first | done | rfl | (simp only [List.length_drop, List.length_take]; rfl)) ?_; (with_reducible refine (trivetref04_EntryForm.calls k a0_0 a0_1 a0_2 _ _ l0_3 t276 _ ?side1 ?side2 A4.out).mono ?_); (case side1 => exact stC (Kd.C_below HR0_3.out HB.out)); (case side2 => exact HC0_3.out); rintro e w10 ⟨v277, rfl, ho0, hb⟩; refine ⟨_, rfl, ?_⟩; have n0_ := Aside0.mk (Kd.R_lower ho0 (below_size (by repeat (first | (with_reducible first | exact HB.out | apply below_alloc | apply pw_below_drewN | apply below_drew1 | refine below_set ?_ GE274.out) | exact HB.out)))); have n1_ := Aside0.mk (blk_below (g := gb274) (o := .cells #[.int .i64 a0_0, .int .i64 a0_1, .int .i64 a0_2, .slice A0_3 l0_3.length c0_3] 36 (0, 0)) (stK BK274.out) hb); have n2_ := Aside0.mk (below_step (by repeat (first | (with_reducible first | exact HB.out | apply below_alloc | apply pw_below_drewN | apply below_drew1 | refine below_set ?_ GE274.out) | exact HB.out)) hb); clear BK274; clear HB; have HO278 := n0_; have BK274 := n1_; have HB := n2_; clear n0_ n1_ n2_; (try clear hb); (try clear hb2); (try clear hk); (try clear hi); (try clear ho0); obtain ⟨Ao11, co11, eo11⟩ := Kd.R_slice HO278.out; subst eo11))
   go_ret2
   exact ⟨_, by first | rfl | (simp [errW_none, errW_some] <;> rfl) | (simp [*, errW_none, errW_some] <;> rfl), by first | exact Kd.R_nil _ _ _ _ _ | exact Kd.N_nil _ _ _ _ _ | exact Kd.V_nil _ _ _ _ _ | exact Kd.Q_nil _ _ _ _ _ | exact Kd.S_nil _ _ _ _ _, by repeat (first | (with_reducible first | exact HB.out | apply below_alloc | apply pw_below_drewN | apply below_drew1 | refine below_set ?_ GE274.out) | exact HB.out)⟩
  ·rw [if_neg c5] at H
   have c5b0 : decide (1048576 < (t276.length : Int)) = false := decide_eq_false c5
   have c5b1 : decide (1048576 < t276.length) = false := decide_eq_false (by omega)
   clear c5
   simp only [Option.some.injEq, Prod.mk.injEq] at H
   obtain ⟨rfl, rfl⟩ := H
   go_enter Try.func13, Try.ntmps13
   go_wp2_with (first | ((with_reducible refine gate_dst (N := 1) rfl ?_); refine box_event ?hg (N := 1) ?hd (cs := #[.int .i64 a0_0, .int .i64 a0_1, .int .i64 a0_2, .slice A0_3 l0_3.length c0_3]) (t := 36) ?hr ?_; (case hd => rfl); (case hg => rfl); (case hr => first | (go_simp; done) | (go_simp; rfl)); intro gb274 hg w12 hbox hb; have n0_ := Aside0.mk (below_step (stB HB.out) hb); have n1_ := Aside0.mk (hbox); have n2_ := Aside0.mk ((by rw [hg]; exact (below_size (stB HB.out)) : w.heap.size ≤ gb274)); have n3_ := Aside0.mk ((by rw [hg]; exact (below_size (stB HB.out)) : w.heap.size ≤ gb274)); clear HB; have HB := n0_; have BK274 := n1_; have GW274 := n2_; have GE274 := n3_; clear n0_ n1_ n2_ n3_; clear hb hbox hg; obtain ⟨hcz13_0, hcz13_1, hcz13_2, hcz13_3⟩ := bc4 BK274.out; obtain ⟨hfz13_0, hfz13_1, hfz13_2, hfz13_3⟩ := bf4 BK274.out) | ((with_reducible refine gate_callee (f := 31) rfl ?_); refine goesL_ (some 6) rfl rfl Try.func31 (by kernel_rfl) rfl #[.agg #[.int .i64 a0_0, .int .i64 a0_1, .int .i64 a0_2, .slice A0_3 l0_3.length c0_3]] rfl (by (try simp only [List.map_toArray, List.map_cons, List.map_nil]); first | done | rfl | (simp only [List.length_drop, List.length_take]; rfl)) ?_; (with_reducible refine (trivetref04_MayEntry.calls k a0_0 a0_1 a0_2 _ _ l0_3 true _ ?side1 ?side2 A2.out).mono ?_); (case side1 => exact stC (Kd.C_below HR0_3.out HB.out)); (case side2 => exact HC0_3.out); rintro e w14 ⟨rfl, hb⟩; refine ⟨_, rfl, ?_⟩; have n0_ := Aside0.mk (blk_below (g := gb274) (o := .cells #[.int .i64 a0_0, .int .i64 a0_1, .int .i64 a0_2, .slice A0_3 l0_3.length c0_3] 36 (0, 0)) (stK BK274.out) hb); have n1_ := Aside0.mk (below_step (by repeat (first | (with_reducible first | exact HB.out | apply below_alloc | apply pw_below_drewN | apply below_drew1 | refine below_set ?_ GE274.out) | exact HB.out)) hb); clear BK274; clear HB; have BK274 := n0_; have HB := n1_; clear n0_ n1_; (try clear hb); (try clear hb2); (try clear hk); (try clear hi); obtain ⟨hcz15_0, hcz15_1, hcz15_2, hcz15_3⟩ := bc4 BK274.out; obtain ⟨hfz15_0, hfz15_1, hfz15_2, hfz15_3⟩ := bf4 BK274.out) | ((with_reducible refine gate_callee (f := 32) rfl ?_); refine goesL_ (some 9) rfl rfl Try.func32 (by kernel_rfl) rfl #[.agg #[.int .i64 a0_0, .int .i64 a0_1, .int .i64 a0_2, .slice A0_3 l0_3.length c0_3]] rfl (by (try simp only [List.map_toArray, List.map_cons, List.map_nil]); first | done | rfl | (simp only [List.length_drop, List.length_take]; rfl)) ?_; (with_reducible refine (trivetref04_EntryForm.calls k a0_0 a0_1 a0_2 _ _ l0_3 t276 _ ?side1 ?side2 A4.out).mono ?_); (case side1 => exact stC (Kd.C_below HR0_3.out HB.out)); (case side2 => exact HC0_3.out); rintro e w16 ⟨v277, rfl, ho0, hb⟩; refine ⟨_, rfl, ?_⟩; have n0_ := Aside0.mk (Kd.R_lower ho0 (below_size (by repeat (first | (with_reducible first | exact HB.out | apply below_alloc | apply pw_below_drewN | apply below_drew1 | refine below_set ?_ GE274.out) | exact HB.out)))); have n1_ := Aside0.mk (blk_below (g := gb274) (o := .cells #[.int .i64 a0_0, .int .i64 a0_1, .int .i64 a0_2, .slice A0_3 l0_3.length c0_3] 36 (0, 0)) (stK BK274.out) hb); have n2_ := Aside0.mk (below_step (by repeat (first | (with_reducible first | exact HB.out | apply below_alloc | apply pw_below_drewN | apply below_drew1 | refine below_set ?_ GE274.out) | exact HB.out)) hb); clear BK274; clear HB; have HO278 := n0_; have BK274 := n1_; have HB := n2_; clear n0_ n1_ n2_; (try clear hb); (try clear hb2); (try clear hk); (try clear hi); (try clear ho0); obtain ⟨Ao17, co17, eo17⟩ := Kd.R_slice HO278.out; subst eo17))
   go_ret2
   exact ⟨_, by first | rfl | (simp [errW_none, errW_some] <;> rfl) | (simp [*, errW_none, errW_some] <;> rfl), stR HO278.out, by repeat (first | (with_reducible first | exact HB.out | apply below_alloc | apply pw_below_drewN | apply below_drew1 | refine below_set ?_ GE274.out) | exact HB.out)⟩
 ·replace c3 := Bool.eq_false_iff.mpr c3
  subst c3
  have H1 : (some (([] : List Int), 40)) = some (r1, r2) := by rw [if_neg (show ¬ (false = true) by decide)] at H; exact H
  clear H
  have H := H1
  clear H1
  simp only [Option.some.injEq, Prod.mk.injEq] at H
  obtain ⟨rfl, rfl⟩ := H
  go_enter Try.func13, Try.ntmps13
  go_wp2_with (first | ((with_reducible refine gate_dst (N := 1) rfl ?_); refine box_event ?hg (N := 1) ?hd (cs := #[.int .i64 a0_0, .int .i64 a0_1, .int .i64 a0_2, .slice A0_3 l0_3.length c0_3]) (t := 36) ?hr ?_; (case hd => rfl); (case hg => rfl); (case hr => first | (go_simp; done) | (go_simp; rfl)); intro gb274 hg w18 hbox hb; have n0_ := Aside0.mk (below_step (stB HB.out) hb); have n1_ := Aside0.mk (hbox); have n2_ := Aside0.mk ((by rw [hg]; exact (below_size (stB HB.out)) : w.heap.size ≤ gb274)); have n3_ := Aside0.mk ((by rw [hg]; exact (below_size (stB HB.out)) : w.heap.size ≤ gb274)); clear HB; have HB := n0_; have BK274 := n1_; have GW274 := n2_; have GE274 := n3_; clear n0_ n1_ n2_ n3_; clear hb hbox hg; obtain ⟨hcz19_0, hcz19_1, hcz19_2, hcz19_3⟩ := bc4 BK274.out; obtain ⟨hfz19_0, hfz19_1, hfz19_2, hfz19_3⟩ := bf4 BK274.out) | ((with_reducible refine gate_callee (f := 31) rfl ?_); refine goesL_ (some 6) rfl rfl Try.func31 (by kernel_rfl) rfl #[.agg #[.int .i64 a0_0, .int .i64 a0_1, .int .i64 a0_2, .slice A0_3 l0_3.length c0_3]] rfl (by (try simp only [List.map_toArray, List.map_cons, List.map_nil]); first | done | rfl | (simp only [List.length_drop, List.length_take]; rfl)) ?_; (with_reducible refine (trivetref04_MayEntry.calls k a0_0 a0_1 a0_2 _ _ l0_3 false _ ?side1 ?side2 A2.out).mono ?_); (case side1 => exact stC (Kd.C_below HR0_3.out HB.out)); (case side2 => exact HC0_3.out); rintro e w20 ⟨rfl, hb⟩; refine ⟨_, rfl, ?_⟩; have n0_ := Aside0.mk (blk_below (g := gb274) (o := .cells #[.int .i64 a0_0, .int .i64 a0_1, .int .i64 a0_2, .slice A0_3 l0_3.length c0_3] 36 (0, 0)) (stK BK274.out) hb); have n1_ := Aside0.mk (below_step (by repeat (first | (with_reducible first | exact HB.out | apply below_alloc | apply pw_below_drewN | apply below_drew1 | refine below_set ?_ GE274.out) | exact HB.out)) hb); clear BK274; clear HB; have BK274 := n0_; have HB := n1_; clear n0_ n1_; (try clear hb); (try clear hb2); (try clear hk); (try clear hi)))
  go_ret2
  exact ⟨_, by first | rfl | (simp [errW_none, errW_some] <;> rfl) | (simp [*, errW_none, errW_some] <;> rfl), by first | exact Kd.R_nil _ _ _ _ _ | exact Kd.N_nil _ _ _ _ _ | exact Kd.V_nil _ _ _ _ _ | exact Kd.Q_nil _ _ _ _ _ | exact Kd.S_nil _ _ _ _ _, by repeat (first | (with_reducible first | exact HB.out | apply below_alloc | apply pw_below_drewN | apply below_drew1 | refine below_set ?_ GE274.out) | exact HB.out)⟩
end Go.Proofs.Ytgmlpmdfkaadhaa.G
end

section
/- The reference's Entry; slices.EqualFunc of transactions. -/
attribute [local irreducible] Go.wpStill
namespace Go.Proofs.Ytgmlpmdfkaadhaa.M
open Go.RowKit Go.Proofs.YtgmlpmdfkaadhaaW.PrintWords Go.Proofs.YtgmlpmdfkaadhaaW.PrintLast Go.Proofs.YtgmlpmdfkaadhaaW.PrintMore Go.Proofs.Ytgmlpmdfkaadhaa.G
theorem rdTx_eq {l : List TxD} {i : Nat} {x : TxD} (h : l[i]? = some x) : G.rd_T32 l (i : Int) = x := by unfold G.rd_T32; rw [Int.toNat_natCast, List.getD_eq_getElem?_getD, h]; rfl
theorem entform_l (x y z : Int) : ∀ (k : Nat) (acc : List Int) (a : List TxD) (i : Nat), a.length + 110 < i + k → i ≤ a.length → (∀ t ∈ a, okT t = true ∧ mayT t = true) → acc.length + 1300 * (a.length - i) < 140737488355000 → a.length ≤ 1000000 → G.trivetref04_EntryForm.l0 k acc (i : Int) x y z a = some (acc ++ (a.drop i).flatMap txB)
 | 0, acc, a, i, hk, hi, _, _, _ => by omega
 | k + 1, acc, a, i, hk, hi, ho, hs, hm => by
  simp only [G.trivetref04_EntryForm.l0]
  by_cases hlt : i < a.length
  ·obtain ⟨t, hx⟩ : ∃ t, a[i]? = some t := ⟨_, List.getElem?_eq_getElem hlt⟩
   have d1 := drop_cons hx
   have hw : wrap64 ((i : Int) + 1) = ((i + 1 : Nat) : Int) := by unfold wrap64; omega
   obtain ⟨h1, h2⟩ := ho t (List.mem_of_getElem? hx)
   have hl := txB_len h1 h2
   rw [if_pos (by omega : (i : Int) < (a.length : Int)), if_pos (by omega : (0 : Int) ≤ (i : Int)), rdTx_eq hx, txform_f k t h1 h2 (by omega), Option.bind_some, if_pos (by omega), hw]
   rw [entform_l x y z k _ a (i + 1) (by omega) (by omega) ho (by rw [List.length_append]; omega) hm, d1, List.flatMap_cons, List.append_assoc]
  ·rw [if_neg (by omega), List.drop_of_length_le (by omega)]
   simp
theorem numsB3 (a b c : Int) : numsB [a, b, c] = numsB [a, b] ++ numB c := by simp [numsB]
theorem entform_f (k : Nat) (e f n : Int) (l : List TxD) (ho : okE e f n l = true) (hm : mayE e f n l = true) (hk : 200 ≤ k) : G.trivetref04_EntryForm.f k e f n l = some (entB e f n l) := by
 obtain ⟨o1, o2, o3⟩ := okE_parts ho
 unfold G.trivetref04_EntryForm.f entB
 have e1 := (numB_len o1).2
 rw [rnum_f k [] [e] (okI1 o1) (by simp) (by simp; omega), Option.bind_some, numsB1, List.nil_append]
 by_cases h0 : e = 0
 ·rw [if_neg (by omega), if_pos h0, h0]
 ·obtain ⟨h1, h2, h3⟩ := mayE_one hm h0
  rw [if_pos h1, if_neg h0]
  have hn : isI64 (l.length : Int) := nat_i64 _ (by omega)
  have e3 := (numB_len hn).2
  have e2 := numsB2_len o2
  have o4 : okI [f, n, (l.length : Int)] = true := by
   unfold okI at o2 ⊢
   simp only [List.all_cons, List.all_nil, Bool.and_true, Bool.and_eq_true, decide_eq_true_eq] at o2 ⊢
   exact ⟨o2.1, o2.2, hn⟩
  rw [rnum_f k (numB e) [f, n, (l.length : Int)] o4 (by simp only [List.length_cons, List.length_nil]; omega) (by simp; omega), Option.bind_some, numsB3]
  have := entform_l e f n k (numB e ++ (numsB [f, n] ++ numB l.length)) l 0 (by omega) (by omega) (fun t ht => ⟨List.all_eq_true.1 o3 t ht, List.all_eq_true.1 h3 t ht⟩) (by simp only [List.length_append]; omega) (by omega)
  rw [show ((0 : Nat) : Int) = 0 from rfl] at this
  rw [this, List.drop_zero]
  simp only [List.append_assoc]
theorem refEntry_is {w : World} (x : EntD) {E : Option Addr} {ce : Nat} (hr : Kd.C G.k32 w E x.f3.length x.f3) (hc : x.f3.length ≤ ce) (ho : okE x.f0 x.f1 x.f2 x.f3 = true) :
  Calls Try.prog 13 #[.agg #[.int .i64 x.f0, .int .i64 x.f1, .int .i64 x.f2, .slice E x.f3.length ce]] w fun e w' => BytesP w (entF x.f0 x.f1 x.f2 x.f3).1 (entF x.f0 x.f1 x.f2 x.f3).2 e w' := by
 obtain ⟨M, hM⟩ := bound_T x.f3
 refine G.trivetref04_Entry.calls (M + x.f3.length + 203) x.f0 x.f1 x.f2 E ce x.f3 _ _ w hr hc ?_
 unfold G.trivetref04_Entry.f entF
 rw [mayE_r _ x.f0 x.f1 x.f2 x.f3 (fun t ht => by have := hM t ht; omega) (by omega) hr.2.1 (fun t ht => ?_), Option.bind_some]
 ·cases hm : mayE x.f0 x.f1 x.f2 x.f3 with
  | false => rw [if_neg (by simp), if_neg (by simp)]
  | true =>
   rw [if_pos rfl, if_pos rfl, entform_f _ _ _ _ _ ho hm (by omega), Option.bind_some]
   by_cases h : 1048576 < (entB x.f0 x.f1 x.f2 x.f3).length
   ·rw [if_pos (by omega), if_pos h]
   ·rw [if_neg (by omega), if_neg h]
 ·obtain ⟨i, hi⟩ := List.getElem?_of_mem ht
  obtain ⟨ad, A2, c2, A3, c3, A4, c4, A5, c5, _, _, hX⟩ := tx_get hr hi
  exact hX.ls
theorem eqTs_get {l l' : List TxD} (hl : l.length = l'.length) : (eqTs l l' = true ↔ ∀ (j : Nat) (a b : TxD), l[j]? = some a → l'[j]? = some b → eqTx a b = true) := by
 induction l generalizing l' with
 | nil =>
  cases l' with
  | nil => simp [eqTs]
  | cons b l' => simp at hl
 | cons a l ih =>
  cases l' with
  | nil => simp at hl
  | cons b l' =>
   unfold eqTs
   rw [Bool.and_eq_true, ih (by simpa using hl)]
   constructor
   ·rintro ⟨h1, h2⟩ j x y hx hy
    cases j with
    | zero =>
     simp at hx hy
     subst hx; subst hy
     exact h1
    | succ j => exact h2 j x y (by simpa using hx) (by simpa using hy)
   ·intro h
    exact ⟨h 0 a b rfl rfl, fun j x y hx hy => h (j + 1) x y (by simpa using hx) (by simpa using hy)⟩
theorem eqTs_lenQ : ∀ {l l' : List TxD}, l.length ≠ l'.length → eqTs l l' = false
 | [], [], h => absurd rfl h
 | [], _ :: _, _ => rfl
 | _ :: _, [], _ => rfl
 | a :: l, b :: l', h => by
  unfold eqTs
  rw [eqTs_lenQ (l := l) (l' := l') (fun e => h (by simp [e]))]
  simp
set_option maxHeartbeats 2000000 in
theorem eqFunc_is {w : World} {A A' : Option Addr} {c c' : Nat} {l l' : List TxD} (ha : Kd.C G.k32 w A l.length l) (hb : Kd.C G.k32 w A' l'.length l') :
  Calls Try.prog 14 #[.slice A l.length c, .slice A' l'.length c', .func (.func 15) #[] #[]] w fun e w' => e = .returned (.bool (eqTs l l')) ∧ Below w.heap.size w w' := by
 have hlm : l.length ≤ 9223372036854775807 := ha.2.1
 have HA := Lib.hid ha; have HB := Lib.hid hb
 clear ha hb
 by_cases hl : l.length = l'.length
 ·have q0 : ((l.length : Int) != (l'.length : Int)) = false := by rw [hl]; simp
  have HL := Lib.hid hl
  clear hl
  go_enter Try.func14, Try.ntmps14
  go_wp2_with fail
  go_loopw [17] (fun i wr => ∃ k : Nat, i = .int .i64 (k : Int) ∧ k ≤ l.length ∧ Aside0 (Below w.heap.size w wr ∧ ∀ (j : Nat) (a b : TxD), j < k → l[j]? = some a → l'[j]? = some b → eqTx a b = true)) (fun i _ => l.length - (intOf i).toNat)
  case atStart => exact ⟨0, rfl, Nat.zero_le _, ⟨Below.refl _ _, fun j _ _ h => absurd h (Nat.not_lt_zero j)⟩⟩
  case round =>
   obtain ⟨k, rfl, hk, HR⟩ := hrel
   by_cases hlt : k < l.length
   ·obtain ⟨x, hx⟩ : ∃ x, l[k]? = some x := ⟨_, List.getElem?_eq_getElem hlt⟩
    obtain ⟨y, hy⟩ : ∃ y, l'[k]? = some y := ⟨_, List.getElem?_eq_getElem (by have := HL.out; omega)⟩
    obtain ⟨ad, A2, c2, A3, c3, A4, c4, A5, c5, hEad, ⟨x0, x1, x2, x3, x4, x5⟩, hX⟩ := tx_get (Kd.C_below HA.out HR.out.1) hx
    obtain ⟨bd, B2, d2, B3, d3, B4, d4, B5, d5, hEbd, ⟨y0, y1, y2, y3, y4, y5⟩, hY⟩ := tx_get (Kd.C_below HB.out HR.out.1) hy
    have HA' := Lib.hid HA.out; have HB' := Lib.hid HB.out
    subst hEad
    subst hEbd
    have HX := Lib.hid hX; have HY := Lib.hid hY; have HGX := Lib.hid hx; have HGY := Lib.hid hy
    have hlt2 : k < l'.length := by have := HL.out; omega
    have HLT := Lib.hid hlt
    have HB2 := Lib.hid (((Below.refl wr.heap.size wr).alloc (Nat.le_refl _) (.cells #[.int .i64 x.f0, .int .i64 x.f1, .slice A2 x.f2.length c2, .slice A3 x.f3.length c3, .slice A4 x.f4.length c4, .slice A5 x.f5.length c5] 32)).alloc (by simp) (.cells #[.int .i64 y.f0, .int .i64 y.f1, .slice B2 y.f2.length d2, .slice B3 y.f3.length d3, .slice B4 y.f4.length d4, .slice B5 y.f5.length d5] 32))
    have zx : (ad.add (k * 6)).block < wr.heap.size := World.block_lt_of_cell? _ _ x0
    have zy : (bd.add (k * 6)).block < wr.heap.size := World.block_lt_of_cell? _ _ y0
    clear hx hy hX hY HA HB
    go_wp2_with fail
    refine (refSame_is x y (HX.out.below HB2.out) (HY.out.below HB2.out)).mono ?_
    rintro e w2 ⟨rfl, hb⟩
    have HB3 := Lib.hid (HR.out.1.trans ((HB2.out.trans (hb.mono HB2.out.size)).mono HR.out.1.size))
    clear hb
    cases hq : eqTx x y with
    | false =>
     have HQ := Lib.hid (show eqTs l l' = false by
      cases h : eqTs l l' with
      | false => rfl
      | true => rw [(eqTs_get HL.out).1 h k x y HGX.out HGY.out] at hq; cases hq)
     clear hq
     go_wp2_with fail
     go_ret
     exact ⟨by rw [HQ.out]; rfl, HB3.out⟩
    | true =>
     have HQ := Lib.hid hq
     clear hq
     go_wp2_with fail
     go_roundw
     case rel =>
      refine ⟨k + 1, by go_num, HLT.out, ⟨HB3.out, fun j a b hj h1 h2 => ?_⟩⟩
      rcases Nat.lt_or_ge j k with h | h
      ·exact HR.out.2 j a b h h1 h2
      ·obtain rfl : j = k := by omega
       rw [HGX.out] at h1
       rw [HGY.out] at h2
       injection h1 with h1
       injection h2 with h2
       subst h1; subst h2
       exact HQ.out
     case measure => have := HLT.out; simp [intOf]; omega
   ·have HQ := Lib.hid (show eqTs l l' = true from (eqTs_get HL.out).2 (fun j a b h1 h2 => HR.out.2 j a b (by have := (List.getElem?_eq_some_iff.1 h1).1; omega) h1 h2))
    obtain rfl : k = l.length := by omega
    clear hlt
    go_wp2_with fail
    go_ret
    exact ⟨by rw [HQ.out]; rfl, HR.out.1⟩
 ·have q0 : ((l.length : Int) != (l'.length : Int)) = true := by rw [bne_iff_ne]; omega
  have HQ := Lib.hid (eqTs_lenQ hl)
  clear hl
  go_enter Try.func14, Try.ntmps14
  go_wp2_with fail
  go_ret
  exact ⟨by rw [HQ.out]; rfl, Below.refl _ _⟩
theorem eqTs_refl : ∀ l : List TxD, eqTs l l = true
 | [] => rfl
 | a :: l => by unfold eqTs; rw [eqTs_refl l]; unfold eqTx; simp [eqS_refl]
end Go.Proofs.Ytgmlpmdfkaadhaa.M
end

section
/- SequencerOrder: the walk. -/
attribute [local irreducible] Go.wpStill
namespace Go.Proofs.Ytgmlpmdfkaadhaa.M
open Go.RowKit Go.Proofs.YtgmlpmdfkaadhaaW.PrintWords Go.Proofs.YtgmlpmdfkaadhaaW.PrintLast Go.Proofs.YtgmlpmdfkaadhaaW.PrintMore Go.Proofs.Ytgmlpmdfkaadhaa.G
def Or1 (w : World) (g mp j : Nat) (v : Value) (W : World) : Prop := ∃ (L : List TxD) (nb : Nat) (A : Option Addr) (c : Nat) (I : Option Addr) (ci : Nat), v = .slice I L.length ci ∧ nb ≤ j ∧ Run w.heap.size w W g mp nb ⟨0, L, 0, 0⟩ A c ∧ TR w.heap.size W (.slice I L.length ci) L ∧ Far g mp A I
def Tk0 (w wS : World) (g mp nb xb : Nat) (A : Option Addr) (D : List TxD) (n : Int) (k : Nat) (W : World) : Prop := ∃ (A' : Option Addr) (c' : Nat) (E : Option Addr) (m e : Nat), Run w.heap.size w W g mp nb ⟨0, D, n, (k : Int)⟩ A' c' ∧ W.heap[xb]? = some (.cells #[.int .i64 0, .int .i64 0, .int .i64 0, .slice E m e] 36) ∧ Moved (fun i => i = xb) g mp wS A W A'
def TkE (w wS : World) (g mp nb xb : Nat) (A : Option Addr) (D : List TxD) (n : Int) (W : World) : Prop := ∃ (A' : Option Addr) (c' : Nat) (E : Option Addr) (e : Nat), Run w.heap.size w W g mp nb ⟨0, D.drop 16, n + 1, 0⟩ A' c' ∧ W.heap[xb]? = some (.cells #[.int .i64 1, .int .i64 0, .int .i64 n, .slice E (D.take 16).length e] 36) ∧ TR w.heap.size W (.slice E (D.take 16).length e) (D.take 16) ∧ Moved (fun i => i = xb) g mp wS A W A'
def Or2 (w : World) (g mp nb : Nat) (L : List TxD) (I : Option Addr) (ci n : Nat) (v : Value) (W : World) : Prop := ∃ (A : Option Addr) (c : Nat) (O : Option Addr) (co : Nat), v = .slice O (L.take (16 * n)).length co ∧ Run w.heap.size w W g mp nb ⟨0, L.drop (16 * n), (n : Int), 0⟩ A c ∧ TR w.heap.size W (.slice I L.length ci) L ∧ Far g mp A I ∧
 TR w.heap.size W (.slice O (L.take (16 * n)).length co) (L.take (16 * n)) ∧ Far g mp A O ∧ ∀ a b, O = some a → I = some b → a.block ≠ b.block
theorem tick0 (D : List TxD) (n : Int) (k : Nat) (h : k < 3) : qTick ⟨0, D, n, (k : Int)⟩ = (⟨0, D, n, ((k + 1 : Nat) : Int)⟩, zE, false) := by
 unfold qTick
 rw [if_neg (by show ¬ (k : Int) = 3; omega)]
 simp
theorem tickE (D : List TxD) (n : Int) (hD : D ≠ []) (hn : n < 1099511627776) : qTick ⟨0, D, n, 3⟩ = (⟨0, D.drop 16, n + 1, 0⟩, ⟨1, 0, n, D.take 16⟩, true) := by
 unfold qTick
 rw [if_pos rfl]
 unfold qFlush
 rw [if_neg (by rintro (h | h); exact hD h; exact absurd hn (Int.not_lt.2 h))]
theorem eqTs_same {l l' : List TxD} (h : l' = l) : eqTs l l' = true := by subst h; exact eqTs_refl _
theorem tr_append_m {B : Nat} {W : World} {ops : Array Oper} {rest : List Oper} {o : Oper} {a : Act} {Q : Exit → Act → World → Prop} (hgd : o.guard = none) (s x : Operand) (ho : o.op = .call { callee := .builtin .append, args := #[s, x], argTypes := #[22, 22] })
  {v : Value} {l l' : List TxD} {X : Option Addr} {m cx : Nat} (hs : a.eval s = v) (hx : a.eval x = .slice X m cx) (hm : l'.length = m) (h : TR B W v l) (hn : SrcO B W X l') (hl : l.length + l'.length ≤ 1048576) (hB : B ≤ W.heap.size)
  (hK : ∀ v' w', TR B w' v' (l ++ l') → W.grownBy w' v.ownBlock → (v'.ownBlock = v.ownBlock ∨ ∃ b, v'.ownBlock = some b ∧ W.heap.size ≤ b) → wpList Try.prog ops Q rest (a.put o.dst v') w') : wpList Try.prog ops Q (o :: rest) a W := by
 subst hm
 exact tr_append_all hgd s x ho hs hx h hn hl hB hK
theorem qTake_l {L : List TxD} {t : TxD} : QT ⟨0, L, 0, 0⟩ t := qt_cases _ _
set_option maxHeartbeats 8000000 in
theorem order_walk (w : World) (A0 : Option Addr) (c0 : Nat) (l : List TxD) (hF : Kd.F G.k32 w (fun k => k < w.heap.size) A0 l.length l) (hc : l.length ≤ c0) (hok : ∀ t ∈ l, okTd t) :
  Calls Try.prog 3 #[.slice A0 l.length c0] w fun e w' => e = .returned (.bool true) ∧ Below w.heap.size w w' := by
 have HF := Lib.hid hF; have HOK := Lib.hid hok
 have hlm : l.length ≤ 9223372036854775807 := Kd.F_max hF
 clear hF hok hc
 go_enter Try.func3, Try.ntmps3
 go_wp2_with fail
 refine (new_run (r := 0) (by decide) (Below.refl w.heap.size w) (Nat.le_refl _)).mono ?_
 rintro e w1 ⟨g, mp, rfl, hR, _, _⟩
 have HR := Lib.hid hR
 clear hR
 go_wp2_with fail
 refine (live_is w1).mono ?_
 rintro e w2 ⟨rfl, hb⟩
 have HR1 := Lib.hid (HR.out.below hb)
 clear hb HR
 go_upto_block 0 with fail
 go_cut [5] (fun v wx => Or1 w g mp l.length v wx)
 case first =>
  go_wp2_with fail
  go_loopw [5, 28] (fun v i wr => ∃ j : Nat, i = .int .i64 (j : Int) ∧ j ≤ l.length ∧ Or1 w g mp j v wr) (fun _ i _ => l.length - (intOf i).toNat)
  case atStart => exact ⟨0, rfl, Nat.zero_le _, [], 0, none, 0, none, 0, rfl, Nat.le_refl _, HR1.out, TR.nil _ _, Far.nil _ _ _⟩
  case round =>
   obtain ⟨j, rfl, hj, L, nb, A, c, I, ci, rfl, hn, hR, hT, hfar⟩ := hrel
   have HRr := Lib.hid hR; have HTr := Lib.hid hT; have HFr := Lib.hid hfar; have HNJ := Lib.hid hn
   clear hR hT hn hfar HR1
   by_cases hlt : j < l.length
   ·obtain ⟨t, ht⟩ : ∃ t, l[j]? = some t := ⟨_, List.getElem?_eq_getElem hlt⟩
    obtain ⟨ad, A2, c2, A3, c3, A4, c4, A5, c5, hEad, ⟨x0, x1, x2, x3, x4, x5⟩, hX⟩ := tx_getF (F_came HF.out HRr.out.d) ht
    have HOT := Lib.hid (okT_wf (HOK.out t (List.mem_of_getElem? ht)))
    have HWF := Lib.hid (show wf2 .i64 .i64 (t.f0, t.f1) from wf_key HOT.out)
    have HX := Lib.hid (Kd.FK_mono hX (fun k hk => (.inl hk : Inn w.heap.size wr k)))
    have HF2 := Lib.hid HF.out
    subst hEad
    have HLT := Lib.hid hlt
    have q1 : decide (j < l.length) = true := decide_eq_true hlt
    clear ht hX HF
    go_upto_region 8 with fail
    have HBa := Lib.hid ((Below.refl wr.heap.size wr).alloc (Nat.le_refl _) (.cells #[.int .i64 t.f0, .int .i64 t.f1, .slice A2 t.f2.length c2, .slice A3 t.f3.length c3, .slice A4 t.f4.length c4, .slice A5 t.f5.length c5] 32))
    have HT1 := Lib.hid (heap_alloc_new wr (.cells #[.int .i64 t.f0, .int .i64 t.f1, .slice A2 t.f2.length c2, .slice A3 t.f3.length c3, .slice A4 t.f4.length c4, .slice A5 t.f5.length c5] 32))
    obtain ⟨tb, htb⟩ : ∃ tb, wr.heap.size = tb := ⟨_, rfl⟩
    have HTB := Lib.hid (show (∀ k, sqS g mp A k → k < tb) ∧ w.heap.size ≤ tb by rw [← htb]; exact ⟨HRr.out.q.lt, HRr.out.le⟩)
    have HTI := Lib.hid (show ∀ a, I = some a → a.block < tb from fun a ha => by rw [← htb]; exact HTr.out.lt _ (own_iff.2 ⟨a, ha, rfl⟩))
    obtain ⟨w4, hw4⟩ : ∃ V, wr.alloc (.cells #[.int .i64 t.f0, .int .i64 t.f1, .slice A2 t.f2.length c2, .slice A3 t.f3.length c3, .slice A4 t.f4.length c4, .slice A5 t.f5.length c5] 32) = V := ⟨_, rfl⟩
    rw [hw4] at HBa HT1 ⊢
    have HRa := Lib.hid (HRr.out.below HBa.out)
    have HTa := Lib.hid (HTr.out.below HBa.out)
    have HXa := Lib.hid (FK_calm HX.out (.of_below HBa.out))
    rw [htb] at HT1 ⊢
    clear hw4 htb x0 x1 x2 x3 x4 x5 HX HBa HRr HTr
    have t0 : w4.cell? ⟨tb, 0, none⟩ = some (.int .i64 t.f0) := (blk_cell HT1.out 0).trans rfl
    have t1 : w4.cell? ⟨tb, 1, none⟩ = some (.int .i64 t.f1) := (blk_cell HT1.out 1).trans rfl
    have t2 : w4.cell? ⟨tb, 2, none⟩ = some (.slice A2 t.f2.length c2) := (blk_cell HT1.out 2).trans rfl
    have t3 : w4.cell? ⟨tb, 3, none⟩ = some (.slice A3 t.f3.length c3) := (blk_cell HT1.out 3).trans rfl
    have t4 : w4.cell? ⟨tb, 4, none⟩ = some (.slice A4 t.f4.length c4) := (blk_cell HT1.out 4).trans rfl
    have t5 : w4.cell? ⟨tb, 5, none⟩ = some (.slice A5 t.f5.length c5) := (blk_cell HT1.out 5).trans rfl
    go_wp2_with fail
    refine (take_is HRa.out.q HXa.out HOT.out (by have := HNJ.out; have := HLT.out; simp only [maxLen]; omega) HWF.out).mono ?_
    rintro e w5 ⟨A', c', rfl, hQ, hK, hN⟩
    have HR5 := Lib.hid (HRa.out.step hQ hK)
    have hgo := HFr.out.go HTa.out HRa.out.q (Moved.of (X := fun _ => False) hK hN) (fun _ h => h.elim) (fun _ _ h => h)
    have HT5 := Lib.hid hgo.1; have HF5 := Lib.hid hgo.2
    have HTX5 := Lib.hid ((hK.block tb (blk_lt HT1.out) (fun e => by have := HTB.out.1 _ e; omega)).trans HT1.out)
    have HXb := Lib.hid (FK_calm HXa.out (.of_keep hK HRa.out.q.out))
    clear hQ hK hN hgo t0 t1 t2 t3 t4 t5 HRa HTa HXa HT1
    have HNJ2 := Lib.hid (show nb + 1 ≤ j + 1 by have := HNJ.out; omega)
    have hsame : (qTake ⟨0, L, 0, 0⟩ t).1 = ⟨0, L, 0, 0⟩ → (qTake ⟨0, L, 0, 0⟩ t).2 ≠ 0 → True := fun _ _ => trivial
    clear hsame
    rcases qTake_l (L := L) (t := t) with h | ⟨h, hw⟩ | ⟨h, hw, hl⟩ | ⟨h, hw, hl, hm⟩
    ·rw [h] at HR5
     rw [h]
     clear h
     go_wp2_with fail
     go_roundw
     case rel => exact ⟨j + 1, by go_num, HLT.out, L, nb + 1, A', c', I, ci, rfl, HNJ2.out, HR5.out, HT5.out, HF5.out⟩
     case measure => have := HLT.out; simp [intOf]; omega
    ·rw [h] at HR5
     rw [h]
     clear h hw
     go_wp2_with fail
     go_roundw
     case rel => exact ⟨j + 1, by go_num, HLT.out, L, nb + 1, A', c', I, ci, rfl, HNJ2.out, HR5.out, HT5.out, HF5.out⟩
     case measure => have := HLT.out; simp [intOf]; omega
    ·rw [h] at HR5
     rw [h]
     clear h hw hl
     go_wp2_with fail
     go_roundw
     case rel => exact ⟨j + 1, by go_num, HLT.out, L, nb + 1, A', c', I, ci, rfl, HNJ2.out, HR5.out, HT5.out, HF5.out⟩
     case measure => have := HLT.out; simp [intOf]; omega
    ·rw [h] at HR5
     rw [h]
     have HL := Lib.hid hl
     have t0 : w5.cell? ⟨tb, 0, none⟩ = some (.int .i64 t.f0) := (blk_cell HTX5.out 0).trans rfl
     have t1 : w5.cell? ⟨tb, 1, none⟩ = some (.int .i64 t.f1) := (blk_cell HTX5.out 1).trans rfl
     have t2 : w5.cell? ⟨tb, 2, none⟩ = some (.slice A2 t.f2.length c2) := (blk_cell HTX5.out 2).trans rfl
     have t3 : w5.cell? ⟨tb, 3, none⟩ = some (.slice A3 t.f3.length c3) := (blk_cell HTX5.out 3).trans rfl
     have t4 : w5.cell? ⟨tb, 4, none⟩ = some (.slice A4 t.f4.length c4) := (blk_cell HTX5.out 4).trans rfl
     have t5 : w5.cell? ⟨tb, 5, none⟩ = some (.slice A5 t.f5.length c5) := (blk_cell HTX5.out 5).trans rfl
     have HRA := Lib.hid (HR5.out.alloc (.cells #[.int .i64 t.f0, .int .i64 t.f1, .slice A2 t.f2.length c2, .slice A3 t.f3.length c3, .slice A4 t.f4.length c4, .slice A5 t.f5.length c5] 32))
     have HTA := Lib.hid (HT5.out.alloc (.cells #[.int .i64 t.f0, .int .i64 t.f1, .slice A2 t.f2.length c2, .slice A3 t.f3.length c3, .slice A4 t.f4.length c4, .slice A5 t.f5.length c5] 32))
     have HSR := Lib.hid (show Src w.heap.size (w5.alloc (.cells #[.int .i64 t.f0, .int .i64 t.f1, .slice A2 t.f2.length c2, .slice A3 t.f3.length c3, .slice A4 t.f4.length c4, .slice A5 t.f5.length c5] 32)) ⟨w5.heap.size, 0, none⟩ [t] _ from src_one (e := 32) HXb.out)
     clear h hw hl hm
     go_wp2_with ((with_reducible refine gate_builtin (b := .append) (xs := #[.tmp 36, .tmp 38]) rfl ?_); at_builtin; refine tr_append rfl (.tmp 36) (.tmp 38) rfl rfl rfl HTA.out HSR.out rfl (by decide) (by have h9 : L.length < 64 := HL.out; omega) (by have := HRA.out.le; exact this) ?_; intro v1 w6 ho hg hat; obtain ⟨I', ci', rfl, _⟩ := ho.slice; have HT6 := Lib.hid ho; have HR6 := Lib.hid (HF5.out.row HTA.out HRA.out hg); have HF6 := Lib.hid (HF5.out.new HRA.out.q (NewRow.of hat)); clear ho hg hat)
     go_roundw
     case rel => exact ⟨j + 1, by go_num, HLT.out, L ++ [t], nb + 1, A', c', I', ci', by rw [List.length_append]; rfl, HNJ2.out, HR6.out, HT6.out, HF6.out⟩
     case measure => have := HLT.out; simp [intOf]; omega
   ·obtain rfl : j = l.length := by omega
    have q1 : decide (l.length < l.length) = false := decide_eq_false hlt
    clear hlt
    go_wp2_with fail
    go_meet
    exact ⟨L, nb, A, c, I, ci, rfl, HNJ.out, HRr.out, HTr.out, HFr.out⟩
 obtain ⟨L, nb, A, c, I, ci, rfl, _, hR, hT, hfar⟩ := hcut
 have HRc := Lib.hid hR; have HTc := Lib.hid hT; have HFc := Lib.hid hfar
 clear hR hT hfar HR1
 have HL := Lib.hid (show L.length ≤ 64 from HRc.out.q.o.m)
 go_wp2_with fail
 go_loopw [6, 9] (fun v i wr => ∃ n : Nat, i = .int .i64 (n : Int) ∧ n ≤ 4 ∧ Or2 w g mp nb L I ci n v wr) (fun _ i _ => 5 - (intOf i).toNat)
 case atStart => exact ⟨0, rfl, by omega, A, c, none, 0, by simp, by simpa using HRc.out, HTc.out, HFc.out, by simpa using TR.nil _ _, Far.nil _ _ _, fun a b h => by cases h⟩
 case round =>
  obtain ⟨n, rfl, hn4, A', c', O, co, rfl, hR, hTI, hFI, hTO, hFO, hne⟩ := hrel
  have HR := Lib.hid hR; have HTI := Lib.hid hTI; have HFI := Lib.hid hFI; have HTO := Lib.hid hTO; have HFO := Lib.hid hFO; have HNE := Lib.hid hne
  obtain ⟨D, hD⟩ : ∃ D, L.drop (16 * n) = D := ⟨_, rfl⟩
  obtain ⟨o, ho⟩ : ∃ o, L.take (16 * n) = o := ⟨_, rfl⟩
  rw [hD] at HR
  rw [ho] at HTO ⊢
  have HD := Lib.hid hD; have HO := Lib.hid ho
  obtain ⟨m, hm⟩ : ∃ m, D.length = m := ⟨_, rfl⟩
  have HM := Lib.hid hm
  have hlen0 := len_is HR.out.q
  have hlen1 : Calls Try.prog 11 #[.pointer (some ⟨g, 0, none⟩)] wr fun e w' => e = .returned (.int .i64 (m : Int)) ∧ w' = wr := by rw [← hm]; exact hlen0
  have HLEN := Lib.hid hlen1
  clear hR hTI hFI hTO hFO hne hD ho hlen0 hlen1 HRc HTc HFc
  by_cases hm0 : m = 0
  ·have HQ := Lib.hid (show eqTs L o = true from eqTs_same (by
    have h1 : D = [] := List.eq_nil_of_length_eq_zero (by rw [hm, hm0])
    have h2 := List.take_append_drop (16 * n) L
    rw [HD.out, HO.out, h1, List.append_nil] at h2
    exact h2))
   subst hm0
   clear hm
   go_wp2_with fail
   refine HLEN.out.mono ?_
   rintro e wb ⟨rfl, rfl⟩
   go_wp2_with fail
   refine (eqFunc_is HTI.out.reads.2.2 HTO.out.reads.2.2).mono ?_
   rintro e wc2 ⟨rfl, hb⟩
   have HB := Lib.hid (HR.out.d.trans (hb.mono HR.out.le))
   clear hb
   rw [HQ.out]
   go_wp2_with fail
   go_ret
   exact ⟨rfl, HB.out⟩
  ·have q0 : decide (0 < m) = true := decide_eq_true (by omega)
   have q00 : decide (0 < (m : Int)) = true := decide_eq_true (by omega)
   have HN4 := Lib.hid (show n + 1 ≤ 4 by
    have h1 := HL.out
    have h2 := congrArg List.length HD.out
    rw [List.length_drop] at h2
    omega)
   have HTE := Lib.hid (tickE D (n : Int) (fun e => hm0 (by rw [← hm, e]; rfl)) (by omega))
   clear hm
   have hm1 : 0 < m := by omega
   clear hm0
   go_wp2_with fail
   refine HLEN.out.mono ?_
   rintro e wb ⟨rfl, rfl⟩
   go_wp2_with fail
   refine HLEN.out.mono ?_
   rintro e wd ⟨rfl, rfl⟩
   go_upto_block 4 with fail
   have HB4 := Lib.hid ((Below.refl wd.heap.size wd).alloc (Nat.le_refl _) (.cells #[.int .i64 0, .int .i64 0, .int .i64 0, .slice none 0 0] 36))
   have HX4 := Lib.hid (heap_alloc_new wd (.cells #[.int .i64 0, .int .i64 0, .int .i64 0, .slice none 0 0] 36))
   obtain ⟨xb, hxb⟩ : ∃ xb, wd.heap.size = xb := ⟨_, rfl⟩
   have HXB := Lib.hid (show (∀ k, sqS g mp A' k → k < xb) ∧ w.heap.size ≤ xb ∧ (∀ a, I = some a → a.block < xb) ∧ ∀ a, O = some a → a.block < xb by rw [← hxb]; exact ⟨HR.out.q.lt, HR.out.le, fun a ha => HTI.out.lt _ (own_iff.2 ⟨a, ha, rfl⟩), fun a ha => HTO.out.lt _ (own_iff.2 ⟨a, ha, rfl⟩)⟩)
   obtain ⟨w4, hw4⟩ : ∃ V, wd.alloc (.cells #[.int .i64 0, .int .i64 0, .int .i64 0, .slice none 0 0] 36) = V := ⟨_, rfl⟩
   rw [hw4] at HB4 HX4 ⊢
   rw [hxb] at HX4 ⊢
   have HR4 := Lib.hid (HR.out.below HB4.out); have HTI4 := Lib.hid (HTI.out.below HB4.out); have HTO4 := Lib.hid (HTO.out.below HB4.out)
   clear hw4 hxb HR HTI HTO HLEN HB4 q0 q00
   go_cut [12] (fun v wx => v = .bool true ∧ TkE w w4 g mp nb xb A' D (n : Int) wx)
   case first =>
    go_wp2_with fail
    go_loopw [12, 13] (fun b i wr => (∃ k : Nat, k ≤ 3 ∧ b = .bool false ∧ i = .int .i64 (k : Int) ∧ Tk0 w w4 g mp nb xb A' D (n : Int) k wr) ∨ (b = .bool true ∧ i = .int .i64 4 ∧ TkE w w4 g mp nb xb A' D (n : Int) wr)) (fun _ i _ => 5 - (intOf i).toNat)
    case atStart => exact .inl ⟨0, by omega, rfl, rfl, A', c', none, 0, 0, HR4.out, HX4.out, Moved.refl _ _ _ _ _⟩
    case round =>
     rcases hrel with ⟨k, hk, rfl, rfl, A5, c5, E5, m5, e5, hR5, hX5, hM5⟩ | ⟨rfl, rfl, hE⟩
     ·have HR5 := Lib.hid hR5; have HX5 := Lib.hid hX5; have HM5 := Lib.hid hM5
      have q1 : decide (k < 4) = true := decide_eq_true (by omega)
      have q2 : decide ((k : Int) < 4) = true := decide_eq_true (by omega)
      have HK := Lib.hid hk
      have hk9 : k ≤ 9 := by omega
      clear hR5 hX5 hM5 hk
      go_wp2_with fail
      refine (tick_is HR5.out.q).mono ?_
      rintro e w6 ⟨A6, c6, E6, rfl, hQ, hT, hK, hN, hE⟩
      obtain ⟨E7, e7, rfl, _⟩ := hT.slice
      have HX6 := Lib.hid ((hK.block xb (blk_lt HX5.out) (fun e => by
       rcases sqS_new HM5.out.n _ e with h | h
       ·have := HXB.out.1 _ h; omega
       ·have := blk_lt HX4.out; omega)).trans HX5.out)
      have HM6 := Lib.hid (HM5.out.trans (Moved.of hK hN))
      have HR6 := Lib.hid (HR5.out.step hQ hK)
      have HT6 := Lib.hid hT; have HE6 := Lib.hid hE
      have HZ5 := Lib.hid (show xb < wr.heap.size from blk_lt HX5.out)
      have y0 : w6.cell? ⟨xb, 0, none⟩ = some (.int .i64 0) := (blk_cell HX6.out 0).trans rfl
      have y1 : w6.cell? ⟨xb, 1, none⟩ = some (.int .i64 0) := (blk_cell HX6.out 1).trans rfl
      have y2 : w6.cell? ⟨xb, 2, none⟩ = some (.int .i64 0) := (blk_cell HX6.out 2).trans rfl
      have y3 : w6.cell? ⟨xb, 3, none⟩ = some (.slice E5 m5 e5) := (blk_cell HX6.out 3).trans rfl
      obtain ⟨z0, z1, z2, z3⟩ := bf4 HX6.out
      clear hQ hT hK hN hE HR5 HX5 HM5
      obtain ⟨r, hr⟩ : ∃ r, qTick ⟨0, D, (n : Int), (k : Int)⟩ = r := ⟨_, rfl⟩
      have HQ := Lib.hid hr
      rw [hr] at HR6 HT6 HE6 ⊢
      clear hr
      obtain ⟨s2, ⟨f0, f1, f2, f3⟩, is⟩ := r
      go_wp2_with fail
      have hks := ((((KeepS.refl (fun i => i = xb) w6).set (p := ⟨xb, 0, none⟩) (.inl rfl) (.int .i64 f0)).set (p := ⟨xb, 1, none⟩) (.inl rfl) (.int .i64 f1)).set (p := ⟨xb, 2, none⟩) (.inl rfl) (.int .i64 f2)).set (p := ⟨xb, 3, none⟩) (.inl rfl) (.slice E7 f3.length e7)
      have hbx : ((((w6.setCell ⟨xb, 0, none⟩ (.int .i64 f0)).setCell ⟨xb, 1, none⟩ (.int .i64 f1)).setCell ⟨xb, 2, none⟩ (.int .i64 f2)).setCell ⟨xb, 3, none⟩ (.slice E7 f3.length e7)).heap[xb]? = some (.cells #[.int .i64 f0, .int .i64 f1, .int .i64 f2, .slice E7 f3.length e7] 36) := blk_put (blk_put (blk_put (blk_put HX6.out 0 _ rfl) 1 _ rfl) 2 _ rfl) 3 _ rfl
      have hni : ∀ i, i = xb → ¬ Inn w.heap.size w6 i := fun i e => by subst e; exact not_inn HXB.out.2.1 HX6.out en_not
      have HKS := Lib.hid hks; have HBX := Lib.hid hbx; have HNI := Lib.hid hni
      clear hks hbx hni
      obtain ⟨w7, hw7⟩ : ∃ V, (((w6.setCell ⟨xb, 0, none⟩ (.int .i64 f0)).setCell ⟨xb, 1, none⟩ (.int .i64 f1)).setCell ⟨xb, 2, none⟩ (.int .i64 f2)).setCell ⟨xb, 3, none⟩ (.slice E7 f3.length e7) = V := ⟨_, rfl⟩
      rw [hw7] at HKS HBX ⊢
      clear hw7 y0 y1 y2 y3 z0 z1 z2 z3
      have HSQ := Lib.hid (show ∀ i, sqS g mp A6 i → ¬ i = xb from fun i hi e => by
       rcases sqS_new HM6.out.n _ hi with h | h
       ·have := HXB.out.1 _ h; omega
       ·have := blk_lt HX4.out; omega)
      have HR7 := Lib.hid (show Run w.heap.size w w7 g mp nb s2 A6 c6 from ⟨HR6.out.q.keep HKS.out HNI.out HSQ.out, HR6.out.d.trans (HKS.out.below HR6.out.le (fun i e => by have := HXB.out.2.1; omega))⟩)
      have HM7 := Lib.hid (HM6.out.keepX HKS.out)
      have HT7 := Lib.hid (HT6.out.keep HKS.out HNI.out (fun i hi e => by have := HE6.out i hi; have := HZ5.out; omega))
      clear HKS HNI HR6 HM6 HT6 HE6 HX6 HSQ
      have hmeas : 5 - (k + 1) < 5 - k := by have := HK.out; omega
      have HMEAS := Lib.hid hmeas
      clear hmeas
      by_cases h3 : k < 3
      ·have h9 := HQ.out
       rw [tick0 D _ k h3] at h9
       simp only [Prod.mk.injEq, zE, EntD.mk.injEq] at h9
       obtain ⟨rfl, ⟨rfl, rfl, rfl, rfl⟩, rfl⟩ := h9
       have HK3 := Lib.hid h3
       clear h3 HQ
       go_roundw
       case rel => exact .inl ⟨k + 1, by have := HK3.out; omega, rfl, by go_num, A6, c6, E7, 0, e7, HR7.out, HBX.out, HM7.out⟩
       case measure => have := HK.out; simp [intOf]; omega
      ·obtain rfl : k = 3 := by have := HK.out; omega
       have h9 := HQ.out
       rw [show (((3 : Nat) : Int)) = 3 from rfl, HTE.out] at h9
       simp only [Prod.mk.injEq, EntD.mk.injEq] at h9
       obtain ⟨rfl, ⟨rfl, rfl, rfl, rfl⟩, rfl⟩ := h9
       clear h3 HQ
       go_roundw
       case rel => exact .inr ⟨rfl, by simp, A6, c6, E7, e7, HR7.out, HBX.out, HT7.out, HM7.out⟩
       case measure => simp [intOf]
     ·have HE := Lib.hid hE
      clear hE
      go_wp2_with fail
      go_meet
      exact ⟨rfl, HE.out⟩
   obtain ⟨rfl, A5, c5, E, ce, hR5, hX5, hT5, hM5⟩ := hcut
   have hgI := HFI.out.go HTI4.out HR4.out.q hM5 (fun i e => by subst e; exact not_inn HXB.out.2.1 HX4.out en_not) (fun a ha e => by have := HXB.out.2.2.1 a ha; omega)
   have hgO := HFO.out.go HTO4.out HR4.out.q hM5 (fun i e => by subst e; exact not_inn HXB.out.2.1 HX4.out en_not) (fun a ha e => by have := HXB.out.2.2.2 a ha; omega)
   have HTI5 := Lib.hid hgI.1; have HFI5 := Lib.hid hgI.2; have HTO5 := Lib.hid hgO.1; have HFO5 := Lib.hid hgO.2
   have HAL := Lib.hid (show ∀ t ∈ D, TxP1 t from fun t ht => HR4.out.q.o.a t ht)
   have HR5 := Lib.hid hR5
   obtain ⟨T, hT⟩ : ∃ T, D.take 16 = T := ⟨_, rfl⟩
   obtain ⟨D2, hD2⟩ : ∃ D2, D.drop 16 = D2 := ⟨_, rfl⟩
   obtain ⟨mt, hmt⟩ : ∃ mt, T.length = mt := ⟨_, rfl⟩
   obtain ⟨m2, hm2⟩ : ∃ m2, D2.length = m2 := ⟨_, rfl⟩
   have HAR := Lib.hid (show mt ≤ 16 ∧ 0 < mt ∧ mt ≤ m ∧ m2 + mt = m ∧ m ≤ 64 by
    have h1 := congrArg List.length hT
    have h2 := congrArg List.length hD2
    rw [List.length_take] at h1
    rw [List.length_drop] at h2
    have h3 := HM.out
    have h4 : D.length ≤ 64 := HR4.out.q.o.m
    omega)
   rw [hD2] at HR5
   rw [hT] at hT5 hX5
   have HT5 := Lib.hid hT5
   rw [hmt] at hX5
   have HX5 := Lib.hid hX5
   have HBO := Lib.hid (batch_ok (l := T) (r := 0) (n := (n : Int)) (fun t ht => HAL.out t (List.mem_of_mem_take (hT ▸ ht))) (by have := HAR.out; omega) (by have := HAR.out; omega) (by decide) (by omega))
   have h4 := refEntry_is (w := wc) ⟨1, 0, (n : Int), T⟩ hT5.reads.2.2 hT5.reads.2.1 HBO.out.1
   dsimp only at h4
   rw [HBO.out.2.2.1] at h4
   obtain ⟨bs, hbs⟩ : ∃ bs, entB 1 0 (n : Int) T = bs := ⟨_, rfl⟩
   have hbl : bs.length ≤ 25000 := by rw [← hbs]; exact HBO.out.2.2.2
   rw [hbs, hmt] at h4
   have HE4 := Lib.hid h4
   have HTT := Lib.hid hT; have HDD := Lib.hid hD2; have HMT := Lib.hid hmt; have HM2 := Lib.hid hm2
   have q4 : decide (65472 < bs.length) = false := decide_eq_false (by omega)
   have q5 : decide (65472 < (bs.length : Int)) = false := decide_eq_false (by omega)
   have b0 : wc.cell? ⟨xb, 0, none⟩ = some (.int .i64 1) := (blk_cell hX5 0).trans rfl
   have b1 : wc.cell? ⟨xb, 1, none⟩ = some (.int .i64 0) := (blk_cell hX5 1).trans rfl
   have b2 : wc.cell? ⟨xb, 2, none⟩ = some (.int .i64 (n : Int)) := (blk_cell hX5 2).trans rfl
   have b3 : wc.cell? ⟨xb, 3, none⟩ = some (.slice E mt ce) := (blk_cell hX5 3).trans rfl
   clear hR5 hX5 hT5 hM5 hgI hgO h4 hbs hbl hT hD2 hmt hm2 HTI4 HTO4 HFI HFO HR4 HX4
   go_wp2_with fail
   refine HE4.out.mono ?_
   rintro e w8 ⟨v8, rfl, hv, hb⟩
   obtain ⟨X8, cx8, rfl⟩ := Kd.R_slice hv
   have HR8 := Lib.hid (HR5.out.below hb); have HT8 := Lib.hid (HT5.out.below hb); have HX8 := Lib.hid ((hb.block xb (blk_lt HX5.out)).trans HX5.out)
   have HTI8 := Lib.hid (HTI5.out.below hb); have HTO8 := Lib.hid (HTO5.out.below hb)
   have hlen2 := len_is (W := w8.drew) (HR8.out.q.below (Below.refl _ w8).drew)
   rw [show (⟨0, D2, (n : Int) + 1, 0⟩ : SqS).l = D2 from rfl, HM2.out] at hlen2
   have HLEN2 := Lib.hid hlen2
   clear hv hb b0 b1 b2 b3 HR5 HT5 HX5 HTI5 HTO5 hlen2 HE4
   go_upto_region 22 with fail
   have b2 : w8.cell? ⟨xb, 2, none⟩ = some (.int .i64 (n : Int)) := (blk_cell HX8.out 2).trans rfl
   have b3 : w8.cell? ⟨xb, 3, none⟩ = some (.slice E mt ce) := (blk_cell HX8.out 3).trans rfl
   have hwr : IntKind.i64.wrap ((m : Int) - (mt : Int)) = (m2 : Int) := by
    have := HAR.out
    rw [IntWalk.i64_in _ (by omega)]
    omega
   have q6 : ((n : Int) != (n : Int)) = false := by simp
   have q7 : ((m2 : Int) != (m2 : Int)) = false := by simp
   have q8 : ((mt : Int) == 0) = false := by rw [beq_eq_false_iff_ne]; have := HAR.out; omega
   refine wp_region_still_tail 38 (by kernel_rfl) (by kernel_rfl) ?_
   simp only [List.take_succ_cons, List.take_zero, List.drop_succ_cons, List.drop_zero]
   iterate 25 still_step
   still_call (HLEN2.out)
   iterate 12 still_step
   refine wpStill_nil ?_
   change wpList _ _ _ _ _ w8.drew
   have HR9 := Lib.hid (HR8.out.below (Below.refl _ w8).drew); have HT9 := Lib.hid (HT8.out.below (Below.refl _ w8).drew); have HX9 := Lib.hid (show w8.drew.heap[xb]? = _ from HX8.out)
   have HTI9 := Lib.hid (HTI8.out.below (Below.refl _ w8).drew); have HTO9 := Lib.hid (HTO8.out.below (Below.refl _ w8).drew)
   obtain ⟨w9, hw9⟩ : ∃ V, w8.drew = V := ⟨_, rfl⟩
   rw [hw9] at HR9 HT9 HX9 HTI9 HTO9 ⊢
   clear hw9 b2 b3 HR8 HT8 HX8 HTI8 HTO8 HLEN2 hwr q6 q7 q4 q5
   have b3 : w9.cell? ⟨xb, 3, none⟩ = some (.slice E mt ce) := (blk_cell HX9.out 3).trans rfl
   go_wp2_with ((with_reducible refine gate_builtin (b := .append) (xs := #[.tmp 105, .tmp 107]) rfl ?_); at_builtin; refine tr_append_m rfl (.tmp 105) (.tmp 107) rfl rfl rfl HMT.out HTO9.out HT9.out.srcO (by have h1 := HMT.out; have h2 := HAR.out; have h3 := congrArg List.length HO.out; rw [List.length_take] at h3; have h4 := HL.out; omega) (by have := HR9.out.le; exact this) ?_; intro v1 w10 ho hg hat; obtain ⟨O', co', rfl, _⟩ := ho.slice; have HTO10 := Lib.hid ho; have HR10 := Lib.hid (HFO5.out.row HTO9.out HR9.out hg); have HFO10 := Lib.hid (HFO5.out.new HR9.out.q (NewRow.of hat)); have HTI10 := Lib.hid (row_other HTO9.out HTI9.out HNE.out hg); have HNE10 := Lib.hid (ne_new HTI9.out HNE.out (NewRow.of hat)); clear ho hg hat)
   have HTA := Lib.hid (show L.take (16 * (n + 1)) = o ++ T ∧ L.drop (16 * (n + 1)) = D2 by
    rw [← HO.out, ← HTT.out, ← HDD.out, ← HD.out]
    constructor
    ·rw [show 16 * (n + 1) = 16 * n + 16 by omega, List.take_add]
    ·rw [List.drop_drop]; congr 1)
   go_roundw
   case rel =>
    refine ⟨n + 1, by go_num, HN4.out, A5, c5, O', co', ?_, ?_, HTI10.out, HFI5.out, ?_, HFO10.out, HNE10.out⟩
    ·rw [HTA.out.1, List.length_append]
     try rfl
    ·rw [HTA.out.2]
     exact HR10.out
    ·rw [HTA.out.1]
     exact HTO10.out
   case measure => simp [intOf]; omega
end Go.Proofs.Ytgmlpmdfkaadhaa.M
end
