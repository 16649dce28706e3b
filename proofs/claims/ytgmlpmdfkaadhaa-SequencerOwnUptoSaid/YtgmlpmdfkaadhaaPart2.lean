/- SequencerOwnUptoSaid: contracts of the functions that the law goes through, put together in build order (part 3 of 5). -/
import Derived.Test.YtgmlpmdfkaadhaaPart1
import Derived.Lib.SmallJoins
import Derived.Lib.Hide
import Derived.Lib.Bytes
import Derived.Deep.RegionHeld3
set_option linter.unusedVariables false
set_option linter.unusedSimpArgs false
set_option maxRecDepth 100000
section
-- Written by a program of this session's (wip/gprint.py over the kit's printer).
namespace Go.Proofs.Ytgmlpmdfkaadhaa.G
open Go.RowKit Go.Proofs.YtgmlpmdfkaadhaaW.PrintWords Go.Proofs.YtgmlpmdfkaadhaaW.PrintLast Go.Proofs.YtgmlpmdfkaadhaaW.PrintMore
attribute [local go_sem] max2_int min2_int max_two min_two max_three min_three max_four min_four   -- for this text's walks alone
def record_txn.f (a0_0 : Int) (a0_1 : Int) (l0_2 : List Int) (l0_3 : List Int) (l0_4 : List (S54)) (l0_5 : List (S54)) : Option (Bool) := (record_between.f 1 1099511627776 (([a0_0, a0_1] : List Int))).bind fun t150 => (if t150 = true then (if (l0_2.length : Int) ≤ 512 then (if (l0_3.length : Int) ≤ 8 then ((record_keys.f l0_4).bind fun t151 => (if t151 = true then ((record_keys.f l0_5).bind fun t152 => (some t152)) else (some false))) else (some false)) else (some false)) else (some false))
set_option maxHeartbeats 8000000 in
set_option maxRecDepth 100000 in
theorem record_txn.calls (a0_0 : Int) (a0_1 : Int) (A0_2 : Option Addr) (c0_2 : Nat) (l0_2 : List Int) (A0_3 : Option Addr) (c0_3 : Nat) (l0_3 : List Int) (A0_4 : Option Addr) (c0_4 : Nat) (l0_4 : List (S54)) (A0_5 : Option Addr) (c0_5 : Nat) (l0_5 : List (S54)) (r : Bool) (w : World) (hr0_2 : Kd.C (Kd.int .u8) w A0_2 l0_2.length l0_2) (hc0_2 : l0_2.length ≤ c0_2) (hr0_3 : Kd.C (Kd.int .i64) w A0_3 l0_3.length l0_3) (hc0_3 : l0_3.length ≤ c0_3) (hr0_4 : Kd.C k54 w A0_4 l0_4.length l0_4) (hc0_4 : l0_4.length ≤ c0_4) (hr0_5 : Kd.C k54 w A0_5 l0_5.length l0_5) (hc0_5 : l0_5.length ≤ c0_5) (h : record_txn.f a0_0 a0_1 l0_2 l0_3 l0_4 l0_5 = some r) :
  Calls Try.prog 60 #[.agg #[.int .i64 a0_0, .int .i64 a0_1, .slice A0_2 l0_2.length c0_2, .slice A0_3 l0_3.length c0_3, .slice A0_4 l0_4.length c0_4, .slice A0_5 l0_5.length c0_5]] w fun e w' => e = .returned (.bool r) ∧ Below w.heap.size w w' := by
 have hu32 := Try.underlying32
 have HR0_2 := Aside0.mk hr0_2
 have HC0_2 := Aside0.mk hc0_2
 clear hr0_2 hc0_2
 have HR0_3 := Aside0.mk hr0_3
 have HC0_3 := Aside0.mk hc0_3
 clear hr0_3 hc0_3
 have HR0_4 := Aside0.mk hr0_4
 have HC0_4 := Aside0.mk hc0_4
 clear hr0_4 hc0_4
 have HR0_5 := Aside0.mk hr0_5
 have HC0_5 := Aside0.mk hc0_5
 clear hr0_5 hc0_5
 have HB := Aside0.mk (Below.refl w.heap.size w)
 have H : ((record_between.f 1 1099511627776 (([a0_0, a0_1] : List Int))).bind fun t150 => (if t150 = true then (if (l0_2.length : Int) ≤ 512 then (if (l0_3.length : Int) ≤ 8 then ((record_keys.f l0_4).bind fun t151 => (if t151 = true then ((record_keys.f l0_5).bind fun t152 => (some t152)) else (some false))) else (some false)) else (some false)) else (some false))) = some r := h
 clear h
 obtain ⟨y147, hy147⟩ : ∃ y_ : List Int, y_ = (([a0_0, a0_1] : List Int)) := ⟨_, rfl⟩
 replace H : ((record_between.f 1 1099511627776 y147).bind fun t150 => (if t150 = true then (if (l0_2.length : Int) ≤ 512 then (if (l0_3.length : Int) ≤ 8 then ((record_keys.f l0_4).bind fun t151 => (if t151 = true then ((record_keys.f l0_5).bind fun t152 => (some t152)) else (some false))) else (some false)) else (some false)) else (some false))) = some r := by first | (rw [hy147]; with_reducible exact H) | (have H2_ := (Option.bind_some _ _).symm.trans H; rw [hy147]; with_reducible exact H2_) | (have H2_ := (Option.bind_some _ _).symm.trans H; with_reducible exact H2_) | with_reducible exact H | (rw [hy147]; exact H) | exact H
 have Ny147 := Aside0.mk hy147
 clear hy147
 replace H := Option.bind_eq_some_iff.mp H
 obtain ⟨t150, A20, H⟩ := H
 replace H : (if t150 = true then (if (l0_2.length : Int) ≤ 512 then (if (l0_3.length : Int) ≤ 8 then ((record_keys.f l0_4).bind fun t151 => (if t151 = true then ((record_keys.f l0_5).bind fun t152 => (some t152)) else (some false))) else (some false)) else (some false)) else (some false)) = some r := H
 have A2 := Aside0.mk A20
 clear A20
 by_cases c3 : t150 = true
 ·subst c3
  have H1 : (if (l0_2.length : Int) ≤ 512 then (if (l0_3.length : Int) ≤ 8 then ((record_keys.f l0_4).bind fun t151 => (if t151 = true then ((record_keys.f l0_5).bind fun t152 => (some t152)) else (some false))) else (some false)) else (some false)) = some r := by rw [if_pos rfl] at H; exact H
  clear H
  have H := H1
  clear H1
  by_cases c4 : (l0_2.length : Int) ≤ 512
  ·rw [if_pos c4] at H
   have c4b0 : decide ((l0_2.length : Int) ≤ 512) = true := decide_eq_true c4
   have c4b1 : decide (l0_2.length ≤ 512) = true := decide_eq_true (by omega)
   clear c4
   by_cases c5 : (l0_3.length : Int) ≤ 8
   ·rw [if_pos c5] at H
    have c5b0 : decide ((l0_3.length : Int) ≤ 8) = true := decide_eq_true c5
    have c5b1 : decide (l0_3.length ≤ 8) = true := decide_eq_true (by omega)
    clear c5
    replace H := Option.bind_eq_some_iff.mp H
    obtain ⟨t151, A60, H⟩ := H
    replace H : (if t151 = true then ((record_keys.f l0_5).bind fun t152 => (some t152)) else (some false)) = some r := H
    have A6 := Aside0.mk A60
    clear A60
    by_cases c7 : t151 = true
    ·subst c7
     have H1 : ((record_keys.f l0_5).bind fun t152 => (some t152)) = some r := by rw [if_pos rfl] at H; exact H
     clear H
     have H := H1
     clear H1
     replace H := Option.bind_eq_some_iff.mp H
     obtain ⟨t152, A80, H⟩ := H
     replace H : (some t152) = some r := H
     have A8 := Aside0.mk A80
     clear A80
     obtain rfl := Option.some.inj H
     go_enter Try.func60, Try.ntmps60
     go_wp2_with (first | ((with_reducible refine gate_dst (N := 1) rfl ?_); (try (refine gate_guard (by rfl) ?_; dsimp only)); refine box_event ?hg (N := 1) ?hd (cs := #[.int .i64 a0_0, .int .i64 a0_1, .slice A0_2 l0_2.length c0_2, .slice A0_3 l0_3.length c0_3, .slice A0_4 l0_4.length c0_4, .slice A0_5 l0_5.length c0_5]) (t := 32) ?hr ?_; (case hd => rfl); (case hg => rfl); (case hr => first | (go_simp; done) | (go_simp; rfl)); intro gb146 hg w9 hbox hb; have n0_ := Aside0.mk (below_step (stB HB.out) hb); have n1_ := Aside0.mk (hbox); have n2_ := Aside0.mk ((by rw [hg]; exact (below_size (stB HB.out)) : w.heap.size ≤ gb146)); have n3_ := Aside0.mk ((by rw [hg]; exact (below_size (stB HB.out)) : w.heap.size ≤ gb146)); clear HB; have HB := n0_; have BK146 := n1_; have GW146 := n2_; have GE146 := n3_; clear n0_ n1_ n2_ n3_; clear hb hbox hg; obtain ⟨hcz10_0, hcz10_1, hcz10_2, hcz10_3, hcz10_4, hcz10_5⟩ := bc6 BK146.out; obtain ⟨hfz10_0, hfz10_1, hfz10_2, hfz10_3, hfz10_4, hfz10_5⟩ := bf6 BK146.out) | ((with_reducible refine gate_dst (N := 7) rfl ?_); (try (refine gate_guard (by rfl) ?_; dsimp only)); refine Kd.R_lit (Kd.int .i64) _ 2 ?hg (N := 7) ?hd (xs := ([a0_0, a0_1] : List Int)) (inner := [.int .i64 a0_0, .int .i64 a0_1]) (ok := fun _ => True) (okp := fun _ => True) ?hr ?hp (fun _ hk => hk) trivial (Below.refl _ _) (Nat.le_refl _) (by simp) ?_; (case hd => rfl); (case hg => rfl); (case hr => first | (go_simp; done) | (go_simp; rfl)); (case hp => exact (Reps.one (show Kd.M (Kd.int .i64) _ _ _ a0_0 [.int .i64 a0_0] from rfl) (Reps.one (show Kd.M (Kd.int .i64) _ _ _ a0_1 [.int .i64 a0_1] from rfl) (Reps.none _ _)))); intro v148 w11 ho12 hb hg_ hnew_; clear hg_ hnew_; (first | rw [← Ny147.out] at ho12 | (simp only [Int.reduceToNat] at ho12; rw [← Ny147.out] at ho12)); have n0_ := Aside0.mk (Kd.R_lower ho12 (below_size (by repeat (first | (with_reducible first | exact HB.out | apply below_alloc | apply pw_below_drewN | apply below_drew1 | refine below_set ?_ GE146.out) | exact HB.out)))); have n1_ := Aside0.mk (blk_below (g := gb146) (o := .cells #[.int .i64 a0_0, .int .i64 a0_1, .slice A0_2 l0_2.length c0_2, .slice A0_3 l0_3.length c0_3, .slice A0_4 l0_4.length c0_4, .slice A0_5 l0_5.length c0_5] 32 (0, 0)) (stK BK146.out) hb); have n2_ := Aside0.mk (below_step (by repeat (first | (with_reducible first | exact HB.out | apply below_alloc | apply pw_below_drewN | apply below_drew1 | refine below_set ?_ GE146.out) | exact HB.out)) hb); clear BK146; clear HB; have HO149 := n0_; have BK146 := n1_; have HB := n2_; clear n0_ n1_ n2_; clear hb ho12; obtain ⟨Ao13, co13, eo13⟩ := Kd.R_slice HO149.out; subst eo13) | ((with_reducible refine gate_callee (f := 55) rfl ?_); refine goesL_ (some 8) rfl rfl Try.func55 (by kernel_rfl) rfl #[.int .i64 1, .int .i64 1099511627776, .slice Ao13 y147.length co13] rfl (by (try simp only [List.map_toArray, List.map_cons, List.map_nil]); first | done | rfl | (simp only [List.length_drop, List.length_take]; rfl)) ?_; (with_reducible refine (record_between.calls 1 1099511627776 _ _ y147 true _ ?side1 ?side2 A2.out).mono ?_); (case side1 => exact stC ((Kd.R_reads' HO149.out).2.2)); (case side2 => exact (Kd.R_reads' HO149.out).2.1); rintro e w14 ⟨rfl, hb⟩; refine ⟨_, rfl, ?_⟩; have n0_ := Aside0.mk (Kd.R_below (stR HO149.out) hb); have n1_ := Aside0.mk (blk_below (g := gb146) (o := .cells #[.int .i64 a0_0, .int .i64 a0_1, .slice A0_2 l0_2.length c0_2, .slice A0_3 l0_3.length c0_3, .slice A0_4 l0_4.length c0_4, .slice A0_5 l0_5.length c0_5] 32 (0, 0)) (stK BK146.out) hb); have n2_ := Aside0.mk (below_step (by repeat (first | (with_reducible first | exact HB.out | apply below_alloc | apply pw_below_drewN | apply below_drew1 | refine below_set ?_ GE146.out) | exact HB.out)) hb); clear HO149; clear BK146; clear HB; have HO149 := n0_; have BK146 := n1_; have HB := n2_; clear n0_ n1_ n2_; (try clear hb); (try clear hb2); (try clear hk); (try clear hi); obtain ⟨hcz15_0, hcz15_1, hcz15_2, hcz15_3, hcz15_4, hcz15_5⟩ := bc6 BK146.out; obtain ⟨hfz15_0, hfz15_1, hfz15_2, hfz15_3, hfz15_4, hfz15_5⟩ := bf6 BK146.out) | (go_at_call 73; (with_reducible refine (record_keys.calls _ _ l0_4 true _ ?side1 ?side2 A6.out).mono ?_); (case side1 => exact stC (Kd.C_below HR0_4.out HB.out)); (case side2 => exact HC0_4.out); rintro e w16 ⟨rfl, hb⟩; have n0_ := Aside0.mk (Kd.R_below (stR HO149.out) hb); have n1_ := Aside0.mk (blk_below (g := gb146) (o := .cells #[.int .i64 a0_0, .int .i64 a0_1, .slice A0_2 l0_2.length c0_2, .slice A0_3 l0_3.length c0_3, .slice A0_4 l0_4.length c0_4, .slice A0_5 l0_5.length c0_5] 32 (0, 0)) (stK BK146.out) hb); have n2_ := Aside0.mk (below_step (by repeat (first | (with_reducible first | exact HB.out | apply below_alloc | apply pw_below_drewN | apply below_drew1 | refine below_set ?_ GE146.out) | exact HB.out)) hb); clear HO149; clear BK146; clear HB; have HO149 := n0_; have BK146 := n1_; have HB := n2_; clear n0_ n1_ n2_; (try clear hb); (try clear hb2); (try clear hk); (try clear hi); obtain ⟨hcz17_0, hcz17_1, hcz17_2, hcz17_3, hcz17_4, hcz17_5⟩ := bc6 BK146.out; obtain ⟨hfz17_0, hfz17_1, hfz17_2, hfz17_3, hfz17_4, hfz17_5⟩ := bf6 BK146.out) | (go_at_call 73; (with_reducible refine (record_keys.calls _ _ l0_5 t152 _ ?side1 ?side2 A8.out).mono ?_); (case side1 => exact stC (Kd.C_below HR0_5.out HB.out)); (case side2 => exact HC0_5.out); rintro e w18 ⟨rfl, hb⟩; have n0_ := Aside0.mk (Kd.R_below (stR HO149.out) hb); have n1_ := Aside0.mk (blk_below (g := gb146) (o := .cells #[.int .i64 a0_0, .int .i64 a0_1, .slice A0_2 l0_2.length c0_2, .slice A0_3 l0_3.length c0_3, .slice A0_4 l0_4.length c0_4, .slice A0_5 l0_5.length c0_5] 32 (0, 0)) (stK BK146.out) hb); have n2_ := Aside0.mk (below_step (by repeat (first | (with_reducible first | exact HB.out | apply below_alloc | apply pw_below_drewN | apply below_drew1 | refine below_set ?_ GE146.out) | exact HB.out)) hb); clear HO149; clear BK146; clear HB; have HO149 := n0_; have BK146 := n1_; have HB := n2_; clear n0_ n1_ n2_; (try clear hb); (try clear hb2); (try clear hk); (try clear hi)))
     go_ret
     exact ⟨by first | rfl | (simp [errW_none, errW_some] <;> rfl) | (simp [*, errW_none, errW_some] <;> rfl), by repeat (first | (with_reducible first | exact HB.out | apply below_alloc | apply pw_below_drewN | apply below_drew1 | refine below_set ?_ GE146.out) | exact HB.out)⟩
    ·replace c7 := Bool.eq_false_iff.mpr c7
     subst c7
     have H1 : (some false) = some r := by rw [if_neg (show ¬ (false = true) by decide)] at H; exact H
     clear H
     have H := H1
     clear H1
     obtain rfl := Option.some.inj H
     go_enter Try.func60, Try.ntmps60
     go_wp2_with (first | ((with_reducible refine gate_dst (N := 1) rfl ?_); (try (refine gate_guard (by rfl) ?_; dsimp only)); refine box_event ?hg (N := 1) ?hd (cs := #[.int .i64 a0_0, .int .i64 a0_1, .slice A0_2 l0_2.length c0_2, .slice A0_3 l0_3.length c0_3, .slice A0_4 l0_4.length c0_4, .slice A0_5 l0_5.length c0_5]) (t := 32) ?hr ?_; (case hd => rfl); (case hg => rfl); (case hr => first | (go_simp; done) | (go_simp; rfl)); intro gb146 hg w19 hbox hb; have n0_ := Aside0.mk (below_step (stB HB.out) hb); have n1_ := Aside0.mk (hbox); have n2_ := Aside0.mk ((by rw [hg]; exact (below_size (stB HB.out)) : w.heap.size ≤ gb146)); have n3_ := Aside0.mk ((by rw [hg]; exact (below_size (stB HB.out)) : w.heap.size ≤ gb146)); clear HB; have HB := n0_; have BK146 := n1_; have GW146 := n2_; have GE146 := n3_; clear n0_ n1_ n2_ n3_; clear hb hbox hg; obtain ⟨hcz20_0, hcz20_1, hcz20_2, hcz20_3, hcz20_4, hcz20_5⟩ := bc6 BK146.out; obtain ⟨hfz20_0, hfz20_1, hfz20_2, hfz20_3, hfz20_4, hfz20_5⟩ := bf6 BK146.out) | ((with_reducible refine gate_dst (N := 7) rfl ?_); (try (refine gate_guard (by rfl) ?_; dsimp only)); refine Kd.R_lit (Kd.int .i64) _ 2 ?hg (N := 7) ?hd (xs := ([a0_0, a0_1] : List Int)) (inner := [.int .i64 a0_0, .int .i64 a0_1]) (ok := fun _ => True) (okp := fun _ => True) ?hr ?hp (fun _ hk => hk) trivial (Below.refl _ _) (Nat.le_refl _) (by simp) ?_; (case hd => rfl); (case hg => rfl); (case hr => first | (go_simp; done) | (go_simp; rfl)); (case hp => exact (Reps.one (show Kd.M (Kd.int .i64) _ _ _ a0_0 [.int .i64 a0_0] from rfl) (Reps.one (show Kd.M (Kd.int .i64) _ _ _ a0_1 [.int .i64 a0_1] from rfl) (Reps.none _ _)))); intro v148 w21 ho22 hb hg_ hnew_; clear hg_ hnew_; (first | rw [← Ny147.out] at ho22 | (simp only [Int.reduceToNat] at ho22; rw [← Ny147.out] at ho22)); have n0_ := Aside0.mk (Kd.R_lower ho22 (below_size (by repeat (first | (with_reducible first | exact HB.out | apply below_alloc | apply pw_below_drewN | apply below_drew1 | refine below_set ?_ GE146.out) | exact HB.out)))); have n1_ := Aside0.mk (blk_below (g := gb146) (o := .cells #[.int .i64 a0_0, .int .i64 a0_1, .slice A0_2 l0_2.length c0_2, .slice A0_3 l0_3.length c0_3, .slice A0_4 l0_4.length c0_4, .slice A0_5 l0_5.length c0_5] 32 (0, 0)) (stK BK146.out) hb); have n2_ := Aside0.mk (below_step (by repeat (first | (with_reducible first | exact HB.out | apply below_alloc | apply pw_below_drewN | apply below_drew1 | refine below_set ?_ GE146.out) | exact HB.out)) hb); clear BK146; clear HB; have HO149 := n0_; have BK146 := n1_; have HB := n2_; clear n0_ n1_ n2_; clear hb ho22; obtain ⟨Ao23, co23, eo23⟩ := Kd.R_slice HO149.out; subst eo23) | ((with_reducible refine gate_callee (f := 55) rfl ?_); refine goesL_ (some 8) rfl rfl Try.func55 (by kernel_rfl) rfl #[.int .i64 1, .int .i64 1099511627776, .slice Ao23 y147.length co23] rfl (by (try simp only [List.map_toArray, List.map_cons, List.map_nil]); first | done | rfl | (simp only [List.length_drop, List.length_take]; rfl)) ?_; (with_reducible refine (record_between.calls 1 1099511627776 _ _ y147 true _ ?side1 ?side2 A2.out).mono ?_); (case side1 => exact stC ((Kd.R_reads' HO149.out).2.2)); (case side2 => exact (Kd.R_reads' HO149.out).2.1); rintro e w24 ⟨rfl, hb⟩; refine ⟨_, rfl, ?_⟩; have n0_ := Aside0.mk (Kd.R_below (stR HO149.out) hb); have n1_ := Aside0.mk (blk_below (g := gb146) (o := .cells #[.int .i64 a0_0, .int .i64 a0_1, .slice A0_2 l0_2.length c0_2, .slice A0_3 l0_3.length c0_3, .slice A0_4 l0_4.length c0_4, .slice A0_5 l0_5.length c0_5] 32 (0, 0)) (stK BK146.out) hb); have n2_ := Aside0.mk (below_step (by repeat (first | (with_reducible first | exact HB.out | apply below_alloc | apply pw_below_drewN | apply below_drew1 | refine below_set ?_ GE146.out) | exact HB.out)) hb); clear HO149; clear BK146; clear HB; have HO149 := n0_; have BK146 := n1_; have HB := n2_; clear n0_ n1_ n2_; (try clear hb); (try clear hb2); (try clear hk); (try clear hi); obtain ⟨hcz25_0, hcz25_1, hcz25_2, hcz25_3, hcz25_4, hcz25_5⟩ := bc6 BK146.out; obtain ⟨hfz25_0, hfz25_1, hfz25_2, hfz25_3, hfz25_4, hfz25_5⟩ := bf6 BK146.out) | (go_at_call 73; (with_reducible refine (record_keys.calls _ _ l0_4 false _ ?side1 ?side2 A6.out).mono ?_); (case side1 => exact stC (Kd.C_below HR0_4.out HB.out)); (case side2 => exact HC0_4.out); rintro e w26 ⟨rfl, hb⟩; have n0_ := Aside0.mk (Kd.R_below (stR HO149.out) hb); have n1_ := Aside0.mk (blk_below (g := gb146) (o := .cells #[.int .i64 a0_0, .int .i64 a0_1, .slice A0_2 l0_2.length c0_2, .slice A0_3 l0_3.length c0_3, .slice A0_4 l0_4.length c0_4, .slice A0_5 l0_5.length c0_5] 32 (0, 0)) (stK BK146.out) hb); have n2_ := Aside0.mk (below_step (by repeat (first | (with_reducible first | exact HB.out | apply below_alloc | apply pw_below_drewN | apply below_drew1 | refine below_set ?_ GE146.out) | exact HB.out)) hb); clear HO149; clear BK146; clear HB; have HO149 := n0_; have BK146 := n1_; have HB := n2_; clear n0_ n1_ n2_; (try clear hb); (try clear hb2); (try clear hk); (try clear hi)))
     go_ret
     exact ⟨by first | rfl | (simp [errW_none, errW_some] <;> rfl) | (simp [*, errW_none, errW_some] <;> rfl), by repeat (first | (with_reducible first | exact HB.out | apply below_alloc | apply pw_below_drewN | apply below_drew1 | refine below_set ?_ GE146.out) | exact HB.out)⟩
   ·rw [if_neg c5] at H
    have c5b0 : decide ((l0_3.length : Int) ≤ 8) = false := decide_eq_false c5
    have c5b1 : decide (l0_3.length ≤ 8) = false := decide_eq_false (by omega)
    clear c5
    obtain rfl := Option.some.inj H
    go_enter Try.func60, Try.ntmps60
    go_wp2_with (first | ((with_reducible refine gate_dst (N := 1) rfl ?_); (try (refine gate_guard (by rfl) ?_; dsimp only)); refine box_event ?hg (N := 1) ?hd (cs := #[.int .i64 a0_0, .int .i64 a0_1, .slice A0_2 l0_2.length c0_2, .slice A0_3 l0_3.length c0_3, .slice A0_4 l0_4.length c0_4, .slice A0_5 l0_5.length c0_5]) (t := 32) ?hr ?_; (case hd => rfl); (case hg => rfl); (case hr => first | (go_simp; done) | (go_simp; rfl)); intro gb146 hg w27 hbox hb; have n0_ := Aside0.mk (below_step (stB HB.out) hb); have n1_ := Aside0.mk (hbox); have n2_ := Aside0.mk ((by rw [hg]; exact (below_size (stB HB.out)) : w.heap.size ≤ gb146)); have n3_ := Aside0.mk ((by rw [hg]; exact (below_size (stB HB.out)) : w.heap.size ≤ gb146)); clear HB; have HB := n0_; have BK146 := n1_; have GW146 := n2_; have GE146 := n3_; clear n0_ n1_ n2_ n3_; clear hb hbox hg; obtain ⟨hcz28_0, hcz28_1, hcz28_2, hcz28_3, hcz28_4, hcz28_5⟩ := bc6 BK146.out; obtain ⟨hfz28_0, hfz28_1, hfz28_2, hfz28_3, hfz28_4, hfz28_5⟩ := bf6 BK146.out) | ((with_reducible refine gate_dst (N := 7) rfl ?_); (try (refine gate_guard (by rfl) ?_; dsimp only)); refine Kd.R_lit (Kd.int .i64) _ 2 ?hg (N := 7) ?hd (xs := ([a0_0, a0_1] : List Int)) (inner := [.int .i64 a0_0, .int .i64 a0_1]) (ok := fun _ => True) (okp := fun _ => True) ?hr ?hp (fun _ hk => hk) trivial (Below.refl _ _) (Nat.le_refl _) (by simp) ?_; (case hd => rfl); (case hg => rfl); (case hr => first | (go_simp; done) | (go_simp; rfl)); (case hp => exact (Reps.one (show Kd.M (Kd.int .i64) _ _ _ a0_0 [.int .i64 a0_0] from rfl) (Reps.one (show Kd.M (Kd.int .i64) _ _ _ a0_1 [.int .i64 a0_1] from rfl) (Reps.none _ _)))); intro v148 w29 ho30 hb hg_ hnew_; clear hg_ hnew_; (first | rw [← Ny147.out] at ho30 | (simp only [Int.reduceToNat] at ho30; rw [← Ny147.out] at ho30)); have n0_ := Aside0.mk (Kd.R_lower ho30 (below_size (by repeat (first | (with_reducible first | exact HB.out | apply below_alloc | apply pw_below_drewN | apply below_drew1 | refine below_set ?_ GE146.out) | exact HB.out)))); have n1_ := Aside0.mk (blk_below (g := gb146) (o := .cells #[.int .i64 a0_0, .int .i64 a0_1, .slice A0_2 l0_2.length c0_2, .slice A0_3 l0_3.length c0_3, .slice A0_4 l0_4.length c0_4, .slice A0_5 l0_5.length c0_5] 32 (0, 0)) (stK BK146.out) hb); have n2_ := Aside0.mk (below_step (by repeat (first | (with_reducible first | exact HB.out | apply below_alloc | apply pw_below_drewN | apply below_drew1 | refine below_set ?_ GE146.out) | exact HB.out)) hb); clear BK146; clear HB; have HO149 := n0_; have BK146 := n1_; have HB := n2_; clear n0_ n1_ n2_; clear hb ho30; obtain ⟨Ao31, co31, eo31⟩ := Kd.R_slice HO149.out; subst eo31) | ((with_reducible refine gate_callee (f := 55) rfl ?_); refine goesL_ (some 8) rfl rfl Try.func55 (by kernel_rfl) rfl #[.int .i64 1, .int .i64 1099511627776, .slice Ao31 y147.length co31] rfl (by (try simp only [List.map_toArray, List.map_cons, List.map_nil]); first | done | rfl | (simp only [List.length_drop, List.length_take]; rfl)) ?_; (with_reducible refine (record_between.calls 1 1099511627776 _ _ y147 true _ ?side1 ?side2 A2.out).mono ?_); (case side1 => exact stC ((Kd.R_reads' HO149.out).2.2)); (case side2 => exact (Kd.R_reads' HO149.out).2.1); rintro e w32 ⟨rfl, hb⟩; refine ⟨_, rfl, ?_⟩; have n0_ := Aside0.mk (Kd.R_below (stR HO149.out) hb); have n1_ := Aside0.mk (blk_below (g := gb146) (o := .cells #[.int .i64 a0_0, .int .i64 a0_1, .slice A0_2 l0_2.length c0_2, .slice A0_3 l0_3.length c0_3, .slice A0_4 l0_4.length c0_4, .slice A0_5 l0_5.length c0_5] 32 (0, 0)) (stK BK146.out) hb); have n2_ := Aside0.mk (below_step (by repeat (first | (with_reducible first | exact HB.out | apply below_alloc | apply pw_below_drewN | apply below_drew1 | refine below_set ?_ GE146.out) | exact HB.out)) hb); clear HO149; clear BK146; clear HB; have HO149 := n0_; have BK146 := n1_; have HB := n2_; clear n0_ n1_ n2_; (try clear hb); (try clear hb2); (try clear hk); (try clear hi); obtain ⟨hcz33_0, hcz33_1, hcz33_2, hcz33_3, hcz33_4, hcz33_5⟩ := bc6 BK146.out; obtain ⟨hfz33_0, hfz33_1, hfz33_2, hfz33_3, hfz33_4, hfz33_5⟩ := bf6 BK146.out))
    go_ret
    exact ⟨by first | rfl | (simp [errW_none, errW_some] <;> rfl) | (simp [*, errW_none, errW_some] <;> rfl), by repeat (first | (with_reducible first | exact HB.out | apply below_alloc | apply pw_below_drewN | apply below_drew1 | refine below_set ?_ GE146.out) | exact HB.out)⟩
  ·rw [if_neg c4] at H
   have c4b0 : decide ((l0_2.length : Int) ≤ 512) = false := decide_eq_false c4
   have c4b1 : decide (l0_2.length ≤ 512) = false := decide_eq_false (by omega)
   clear c4
   obtain rfl := Option.some.inj H
   go_enter Try.func60, Try.ntmps60
   go_wp2_with (first | ((with_reducible refine gate_dst (N := 1) rfl ?_); (try (refine gate_guard (by rfl) ?_; dsimp only)); refine box_event ?hg (N := 1) ?hd (cs := #[.int .i64 a0_0, .int .i64 a0_1, .slice A0_2 l0_2.length c0_2, .slice A0_3 l0_3.length c0_3, .slice A0_4 l0_4.length c0_4, .slice A0_5 l0_5.length c0_5]) (t := 32) ?hr ?_; (case hd => rfl); (case hg => rfl); (case hr => first | (go_simp; done) | (go_simp; rfl)); intro gb146 hg w34 hbox hb; have n0_ := Aside0.mk (below_step (stB HB.out) hb); have n1_ := Aside0.mk (hbox); have n2_ := Aside0.mk ((by rw [hg]; exact (below_size (stB HB.out)) : w.heap.size ≤ gb146)); have n3_ := Aside0.mk ((by rw [hg]; exact (below_size (stB HB.out)) : w.heap.size ≤ gb146)); clear HB; have HB := n0_; have BK146 := n1_; have GW146 := n2_; have GE146 := n3_; clear n0_ n1_ n2_ n3_; clear hb hbox hg; obtain ⟨hcz35_0, hcz35_1, hcz35_2, hcz35_3, hcz35_4, hcz35_5⟩ := bc6 BK146.out; obtain ⟨hfz35_0, hfz35_1, hfz35_2, hfz35_3, hfz35_4, hfz35_5⟩ := bf6 BK146.out) | ((with_reducible refine gate_dst (N := 7) rfl ?_); (try (refine gate_guard (by rfl) ?_; dsimp only)); refine Kd.R_lit (Kd.int .i64) _ 2 ?hg (N := 7) ?hd (xs := ([a0_0, a0_1] : List Int)) (inner := [.int .i64 a0_0, .int .i64 a0_1]) (ok := fun _ => True) (okp := fun _ => True) ?hr ?hp (fun _ hk => hk) trivial (Below.refl _ _) (Nat.le_refl _) (by simp) ?_; (case hd => rfl); (case hg => rfl); (case hr => first | (go_simp; done) | (go_simp; rfl)); (case hp => exact (Reps.one (show Kd.M (Kd.int .i64) _ _ _ a0_0 [.int .i64 a0_0] from rfl) (Reps.one (show Kd.M (Kd.int .i64) _ _ _ a0_1 [.int .i64 a0_1] from rfl) (Reps.none _ _)))); intro v148 w36 ho37 hb hg_ hnew_; clear hg_ hnew_; (first | rw [← Ny147.out] at ho37 | (simp only [Int.reduceToNat] at ho37; rw [← Ny147.out] at ho37)); have n0_ := Aside0.mk (Kd.R_lower ho37 (below_size (by repeat (first | (with_reducible first | exact HB.out | apply below_alloc | apply pw_below_drewN | apply below_drew1 | refine below_set ?_ GE146.out) | exact HB.out)))); have n1_ := Aside0.mk (blk_below (g := gb146) (o := .cells #[.int .i64 a0_0, .int .i64 a0_1, .slice A0_2 l0_2.length c0_2, .slice A0_3 l0_3.length c0_3, .slice A0_4 l0_4.length c0_4, .slice A0_5 l0_5.length c0_5] 32 (0, 0)) (stK BK146.out) hb); have n2_ := Aside0.mk (below_step (by repeat (first | (with_reducible first | exact HB.out | apply below_alloc | apply pw_below_drewN | apply below_drew1 | refine below_set ?_ GE146.out) | exact HB.out)) hb); clear BK146; clear HB; have HO149 := n0_; have BK146 := n1_; have HB := n2_; clear n0_ n1_ n2_; clear hb ho37; obtain ⟨Ao38, co38, eo38⟩ := Kd.R_slice HO149.out; subst eo38) | ((with_reducible refine gate_callee (f := 55) rfl ?_); refine goesL_ (some 8) rfl rfl Try.func55 (by kernel_rfl) rfl #[.int .i64 1, .int .i64 1099511627776, .slice Ao38 y147.length co38] rfl (by (try simp only [List.map_toArray, List.map_cons, List.map_nil]); first | done | rfl | (simp only [List.length_drop, List.length_take]; rfl)) ?_; (with_reducible refine (record_between.calls 1 1099511627776 _ _ y147 true _ ?side1 ?side2 A2.out).mono ?_); (case side1 => exact stC ((Kd.R_reads' HO149.out).2.2)); (case side2 => exact (Kd.R_reads' HO149.out).2.1); rintro e w39 ⟨rfl, hb⟩; refine ⟨_, rfl, ?_⟩; have n0_ := Aside0.mk (Kd.R_below (stR HO149.out) hb); have n1_ := Aside0.mk (blk_below (g := gb146) (o := .cells #[.int .i64 a0_0, .int .i64 a0_1, .slice A0_2 l0_2.length c0_2, .slice A0_3 l0_3.length c0_3, .slice A0_4 l0_4.length c0_4, .slice A0_5 l0_5.length c0_5] 32 (0, 0)) (stK BK146.out) hb); have n2_ := Aside0.mk (below_step (by repeat (first | (with_reducible first | exact HB.out | apply below_alloc | apply pw_below_drewN | apply below_drew1 | refine below_set ?_ GE146.out) | exact HB.out)) hb); clear HO149; clear BK146; clear HB; have HO149 := n0_; have BK146 := n1_; have HB := n2_; clear n0_ n1_ n2_; (try clear hb); (try clear hb2); (try clear hk); (try clear hi); obtain ⟨hcz40_0, hcz40_1, hcz40_2, hcz40_3, hcz40_4, hcz40_5⟩ := bc6 BK146.out; obtain ⟨hfz40_0, hfz40_1, hfz40_2, hfz40_3, hfz40_4, hfz40_5⟩ := bf6 BK146.out))
   go_ret
   exact ⟨by first | rfl | (simp [errW_none, errW_some] <;> rfl) | (simp [*, errW_none, errW_some] <;> rfl), by repeat (first | (with_reducible first | exact HB.out | apply below_alloc | apply pw_below_drewN | apply below_drew1 | refine below_set ?_ GE146.out) | exact HB.out)⟩
 ·replace c3 := Bool.eq_false_iff.mpr c3
  subst c3
  have H1 : (some false) = some r := by rw [if_neg (show ¬ (false = true) by decide)] at H; exact H
  clear H
  have H := H1
  clear H1
  obtain rfl := Option.some.inj H
  go_enter Try.func60, Try.ntmps60
  go_wp2_with (first | ((with_reducible refine gate_dst (N := 1) rfl ?_); (try (refine gate_guard (by rfl) ?_; dsimp only)); refine box_event ?hg (N := 1) ?hd (cs := #[.int .i64 a0_0, .int .i64 a0_1, .slice A0_2 l0_2.length c0_2, .slice A0_3 l0_3.length c0_3, .slice A0_4 l0_4.length c0_4, .slice A0_5 l0_5.length c0_5]) (t := 32) ?hr ?_; (case hd => rfl); (case hg => rfl); (case hr => first | (go_simp; done) | (go_simp; rfl)); intro gb146 hg w41 hbox hb; have n0_ := Aside0.mk (below_step (stB HB.out) hb); have n1_ := Aside0.mk (hbox); have n2_ := Aside0.mk ((by rw [hg]; exact (below_size (stB HB.out)) : w.heap.size ≤ gb146)); have n3_ := Aside0.mk ((by rw [hg]; exact (below_size (stB HB.out)) : w.heap.size ≤ gb146)); clear HB; have HB := n0_; have BK146 := n1_; have GW146 := n2_; have GE146 := n3_; clear n0_ n1_ n2_ n3_; clear hb hbox hg; obtain ⟨hcz42_0, hcz42_1, hcz42_2, hcz42_3, hcz42_4, hcz42_5⟩ := bc6 BK146.out; obtain ⟨hfz42_0, hfz42_1, hfz42_2, hfz42_3, hfz42_4, hfz42_5⟩ := bf6 BK146.out) | ((with_reducible refine gate_dst (N := 7) rfl ?_); (try (refine gate_guard (by rfl) ?_; dsimp only)); refine Kd.R_lit (Kd.int .i64) _ 2 ?hg (N := 7) ?hd (xs := ([a0_0, a0_1] : List Int)) (inner := [.int .i64 a0_0, .int .i64 a0_1]) (ok := fun _ => True) (okp := fun _ => True) ?hr ?hp (fun _ hk => hk) trivial (Below.refl _ _) (Nat.le_refl _) (by simp) ?_; (case hd => rfl); (case hg => rfl); (case hr => first | (go_simp; done) | (go_simp; rfl)); (case hp => exact (Reps.one (show Kd.M (Kd.int .i64) _ _ _ a0_0 [.int .i64 a0_0] from rfl) (Reps.one (show Kd.M (Kd.int .i64) _ _ _ a0_1 [.int .i64 a0_1] from rfl) (Reps.none _ _)))); intro v148 w43 ho44 hb hg_ hnew_; clear hg_ hnew_; (first | rw [← Ny147.out] at ho44 | (simp only [Int.reduceToNat] at ho44; rw [← Ny147.out] at ho44)); have n0_ := Aside0.mk (Kd.R_lower ho44 (below_size (by repeat (first | (with_reducible first | exact HB.out | apply below_alloc | apply pw_below_drewN | apply below_drew1 | refine below_set ?_ GE146.out) | exact HB.out)))); have n1_ := Aside0.mk (blk_below (g := gb146) (o := .cells #[.int .i64 a0_0, .int .i64 a0_1, .slice A0_2 l0_2.length c0_2, .slice A0_3 l0_3.length c0_3, .slice A0_4 l0_4.length c0_4, .slice A0_5 l0_5.length c0_5] 32 (0, 0)) (stK BK146.out) hb); have n2_ := Aside0.mk (below_step (by repeat (first | (with_reducible first | exact HB.out | apply below_alloc | apply pw_below_drewN | apply below_drew1 | refine below_set ?_ GE146.out) | exact HB.out)) hb); clear BK146; clear HB; have HO149 := n0_; have BK146 := n1_; have HB := n2_; clear n0_ n1_ n2_; clear hb ho44; obtain ⟨Ao45, co45, eo45⟩ := Kd.R_slice HO149.out; subst eo45) | ((with_reducible refine gate_callee (f := 55) rfl ?_); refine goesL_ (some 8) rfl rfl Try.func55 (by kernel_rfl) rfl #[.int .i64 1, .int .i64 1099511627776, .slice Ao45 y147.length co45] rfl (by (try simp only [List.map_toArray, List.map_cons, List.map_nil]); first | done | rfl | (simp only [List.length_drop, List.length_take]; rfl)) ?_; (with_reducible refine (record_between.calls 1 1099511627776 _ _ y147 false _ ?side1 ?side2 A2.out).mono ?_); (case side1 => exact stC ((Kd.R_reads' HO149.out).2.2)); (case side2 => exact (Kd.R_reads' HO149.out).2.1); rintro e w46 ⟨rfl, hb⟩; refine ⟨_, rfl, ?_⟩; have n0_ := Aside0.mk (Kd.R_below (stR HO149.out) hb); have n1_ := Aside0.mk (blk_below (g := gb146) (o := .cells #[.int .i64 a0_0, .int .i64 a0_1, .slice A0_2 l0_2.length c0_2, .slice A0_3 l0_3.length c0_3, .slice A0_4 l0_4.length c0_4, .slice A0_5 l0_5.length c0_5] 32 (0, 0)) (stK BK146.out) hb); have n2_ := Aside0.mk (below_step (by repeat (first | (with_reducible first | exact HB.out | apply below_alloc | apply pw_below_drewN | apply below_drew1 | refine below_set ?_ GE146.out) | exact HB.out)) hb); clear HO149; clear BK146; clear HB; have HO149 := n0_; have BK146 := n1_; have HB := n2_; clear n0_ n1_ n2_; (try clear hb); (try clear hb2); (try clear hk); (try clear hi)))
  go_ret
  exact ⟨by first | rfl | (simp [errW_none, errW_some] <;> rfl) | (simp [*, errW_none, errW_some] <;> rfl), by repeat (first | (with_reducible first | exact HB.out | apply below_alloc | apply pw_below_drewN | apply below_drew1 | refine below_set ?_ GE146.out) | exact HB.out)⟩
mutual
def trivetref01_Num.j0 : Nat → Int → Int → Option (List Int)
 | 0, _, _ => none
 | k + 1, x3, x4 => trivetref01_Num.l0 k x3 x4 ([] : List Int)
def trivetref01_Num.l0 : Nat → Int → Int → List Int → Option (List Int)
 | 0, _, _, _ => none
 | k + 1, x3, x4, x5 => if x3 > 0 then (if x5.length < 140737488355328 then (trivetref01_Num.l0 k (IntKind.u64.wrap (Int.tdiv x3 256)) x4 (x5 ++ [(Int.tmod x3 256) % 256])) else (none)) else ((some (([(((wrap64 (2 * (x5.length : Int))) % 256) + x4) % 256] : List Int) : List Int)).bind fun y156 => (if y156.length + x5.length < 140737488355328 then (some (y156 ++ x5)) else (none)))
end
def trivetref01_Num.f (k : Nat) (a0 : Int) : Option (List Int) := if a0 < 0 then (trivetref01_Num.j0 k (IntKind.u64.wrap ((IntKind.u64.wrap (wrap64 (-(wrap64 (a0 + 1))))) + 1)) 1) else (trivetref01_Num.j0 k (IntKind.u64.wrap (a0)) 0)
set_option maxHeartbeats 8000000 in
set_option maxRecDepth 100000 in
theorem trivetref01_Num.calls (k : Nat) (a0 : Int) (r : List Int) (w : World) (h : trivetref01_Num.f k a0 = some r) :
  Calls Try.prog 78 #[.int .i64 a0] w fun e w' => ∃ v0_ : Value, e = .returned (v0_) ∧ Kd.R (Kd.int .u8) 5 w' w.heap.size (fun _ => True) v0_ r ∧ Below w.heap.size w w' := by
 have HB := Aside0.mk (Below.refl w.heap.size w)
 have H : (if a0 < 0 then (trivetref01_Num.j0 k (IntKind.u64.wrap ((IntKind.u64.wrap (wrap64 (-(wrap64 (a0 + 1))))) + 1)) 1) else (trivetref01_Num.j0 k (IntKind.u64.wrap (a0)) 0)) = some r := h
 clear h
 have HC2 := Aside0.mk H
 clear H
 go_enter Try.func78, Try.ntmps78
 go_upto_if 10 with (fail)
 go_cut [3, 4] (fun v3 v4 wc => ∃ (kq : Nat) (x3_1 : Int) (x4_1 : Int), v3 = .int .u64 x3_1 ∧ v4 = .int .u8 x4_1 ∧ Aside0 (trivetref01_Num.j0 kq x3_1 x4_1 = some r) ∧ Aside0 (kq ≤ k) ∧ Aside0 (Below w.heap.size w wc))
 case first =>
  have H := HC2.out
  clear HC2
  by_cases c3 : a0 < 0
  ·rw [if_pos c3] at H
   have c3b0 : decide (a0 < 0) = true := decide_eq_true c3
   clear c3
   (first | rw [c3b0] | (simp only [i64_w, i32_w]; rw [c3b0]) | skip)
   have H' := Aside0.mk H
   clear H
   go_wp2
   go_meet
   case rel => exact ⟨_, (IntKind.u64.wrap ((IntKind.u64.wrap (wrap64 (-(wrap64 (a0 + 1))))) + 1)), (1), (by first | rfl | (simp; done) | (simp [*]; done)), (by first | rfl | (simp; done) | (simp [*]; done)), H', ⟨by first | omega | exact Nat.le_refl _⟩, ⟨stB HB.out⟩⟩
  ·rw [if_neg c3] at H
   have c3b0 : decide (a0 < 0) = false := decide_eq_false c3
   clear c3
   (first | rw [c3b0] | (simp only [i64_w, i32_w]; rw [c3b0]) | skip)
   have H' := Aside0.mk H
   clear H
   go_wp2
   go_meet
   case rel => exact ⟨_, (IntKind.u64.wrap (a0)), (0), (by first | rfl | (simp; done) | (simp [*]; done)), (by first | rfl | (simp; done) | (simp [*]; done)), H', ⟨by first | omega | exact Nat.le_refl _⟩, ⟨stB HB.out⟩⟩
 case rest =>
  clear HC2
  try clear p2
  try clear c3
  try clear c3b0
  obtain ⟨kq, x3_1, x4_1, rfl, rfl, HA, HJ1, HB⟩ := hcut
  cases kq with
  | zero => exact absurd HA.out (by simp [trivetref01_Num.j0])
  | succ kj1 =>
   have H := HA.out
   clear HA
   simp only [trivetref01_Num.j0] at H
   have H' := Aside0.mk H
   clear H
   go_wp2
   go_loopg [3, 5] kj1 (fun kq v3 v5 w' => ∃ (x3_2 : Int) (x5_2 : List Int), v3 = .int .u64 x3_2 ∧ Aside0 (trivetref01_Num.l0 kq x3_2 x4_1 x5_2 = some r) ∧ Aside0 (kq ≤ kj1) ∧ Aside0 (Kd.R (Kd.int .u8) 5 w' w.heap.size (fun _ => True) v5 x5_2) ∧ Aside0 (Below w.heap.size w w'))
   case atStart => exact ⟨(x3_1), (([] : List Int)), (by first | rfl | (simp; done) | (simp [*]; done)), H', ⟨Nat.le_refl _⟩, ⟨by first | exact Kd.R_nil _ _ _ _ _ | exact Kd.N_nil _ _ _ _ _ | exact Kd.V_nil _ _ _ _ _ | exact Kd.Q_nil _ _ _ _ _ | exact Kd.S_nil _ _ _ _ _⟩, ⟨stB HB.out⟩⟩
   case round =>
    clear H'
    try clear p2
    try clear c3
    try clear c3b0
    try clear p2
    obtain ⟨x3_2, x5_2, rfl, HA, HK2, HO_5, HB⟩ := hrel
    cases gk with
    | zero => exact absurd HA.out (by simp [trivetref01_Num.l0])
    | succ k2 =>
     have H := HA.out
     clear HA
     simp only [trivetref01_Num.l0] at H
     by_cases c4 : x3_2 > 0
     ·rw [if_pos c4] at H
      have c4b0 : decide (0 < x3_2) = true := decide_eq_true c4
      clear c4
      by_cases c5 : x5_2.length < 140737488355328
      ·rw [if_pos c5] at H
       have LMc5 := Aside0.mk c5
       clear c5
       obtain ⟨y153, hy153⟩ : ∃ y_ : List Int, y_ = (x5_2 ++ [(Int.tmod x3_2 256) % 256]) := ⟨_, rfl⟩
       replace H : (trivetref01_Num.l0 k2 (IntKind.u64.wrap (Int.tdiv x3_2 256)) x4_1 y153) = some r := by first | (rw [hy153]; with_reducible exact H) | (have H2_ := (Option.bind_some _ _).symm.trans H; rw [hy153]; with_reducible exact H2_) | (have H2_ := (Option.bind_some _ _).symm.trans H; with_reducible exact H2_) | with_reducible exact H | (rw [hy153]; exact H) | exact H
       have Ny153 := Aside0.mk hy153
       clear hy153
       have H' := Aside0.mk H
       clear H
       go_wp2_with (first | ((with_reducible refine gate_builtin (b := .append) (xs := #[.tmp 18, .tmp 22]) rfl ?_); at_builtin; refine Kd.R_append (Kd.int .u8) (w0 := w) w.heap.size rfl (.tmp 18) (.tmp 22) 28 5 (.int .u8 0) 1 rfl Try.underlying28 info5 rfl (by decide) (by omega) u5 x5_2 ((Int.tmod x3_2 256) % 256) [.int .u8 ((Int.tmod x3_2 256) % 256)] (fun _ => True) (fun _ => False) rfl rfl ?aP (fun _ hk => hk.elim) ?aF ?aO ?aB ?aS ?aL ?_; (case aP => exact rfl); (case aB => exact (stB HB.out)); (case aF => exact (fun _ _ => trivial)); (case aO => exact (stR HO_5.out)); (case aS => exact (below_size (stB HB.out))); (case aL => have := LMc5.out; omega); intro v154 w6 ho hb hg hat; rw [← Ny153.out] at ho; have n0_ := Aside0.mk (hb); have n1_ := Aside0.mk (ho); clear HB; clear HO_5; have HB := n0_; have HO155 := n1_; clear n0_ n1_; clear ho hb hg hat))
       go_roundg k2
       case measure => have := HJ1.out; have := HK2.out; omega
       case rel => exact ⟨(IntKind.u64.wrap (Int.tdiv x3_2 256)), (y153), (by first | rfl | (simp; done) | (simp [*]; done)), H', ⟨by have := HJ1.out; have := HK2.out; omega⟩, ⟨stR HO155.out⟩, ⟨stB HB.out⟩⟩
      ·rw [if_neg c5] at H
       exact absurd H (by simp)
     ·rw [if_neg c4] at H
      have c4b0 : decide (0 < x3_2) = false := decide_eq_false c4
      clear c4
      obtain ⟨y156, hy156⟩ : ∃ y_ : List Int, y_ = (([(((wrap64 (2 * (x5_2.length : Int))) % 256) + x4_1) % 256] : List Int)) := ⟨_, rfl⟩
      replace H : (if y156.length + x5_2.length < 140737488355328 then (some (y156 ++ x5_2)) else (none)) = some r := by first | (rw [hy156]; with_reducible exact H) | (have H2_ := (Option.bind_some _ _).symm.trans H; rw [hy156]; with_reducible exact H2_) | (have H2_ := (Option.bind_some _ _).symm.trans H; with_reducible exact H2_) | with_reducible exact H | (rw [hy156]; exact H) | exact H
      have Ny156 := Aside0.mk hy156
      clear hy156
      by_cases c7 : y156.length + x5_2.length < 140737488355328
      ·rw [if_pos c7] at H
       have LMc7 := Aside0.mk c7
       clear c7
       obtain ⟨y159, hy159⟩ : ∃ y_ : List Int, y_ = (y156 ++ x5_2) := ⟨_, rfl⟩
       replace H : (some y159) = some r := by first | (rw [hy159]; with_reducible exact H) | (have H2_ := (Option.bind_some _ _).symm.trans H; rw [hy159]; with_reducible exact H2_) | (have H2_ := (Option.bind_some _ _).symm.trans H; with_reducible exact H2_) | with_reducible exact H | (rw [hy159]; exact H) | exact H
       have Ny159 := Aside0.mk hy159
       clear hy159
       obtain rfl := Option.some.inj H
       obtain ⟨Ao8, co8, eo8⟩ := Kd.R_slice HO_5.out
       subst eo8
       go_wp2_with (first | ((with_reducible refine gate_dst (N := 32) rfl ?_); refine Kd.R_lit (Kd.int .u8) _ 5 ?hg (N := 32) ?hd (xs := ([(((wrap64 (2 * (x5_2.length : Int))) % 256) + x4_1) % 256] : List Int)) (inner := [.int .u8 ((((wrap64 (2 * (x5_2.length : Int))) % 256) + x4_1) % 256)]) (ok := fun _ => True) (okp := fun _ => True) ?hr ?hp (fun _ hk => hk) trivial (Below.refl _ _) (Nat.le_refl _) (by simp) ?_; (case hd => rfl); (case hg => rfl); (case hr => first | (go_simp; done) | (go_simp; rfl)); (case hp => exact (Reps.one (show Kd.M (Kd.int .u8) _ _ _ ((((wrap64 (2 * (x5_2.length : Int))) % 256) + x4_1) % 256) [.int .u8 ((((wrap64 (2 * (x5_2.length : Int))) % 256) + x4_1) % 256)] from rfl) (Reps.none _ _))); intro v157 w9 ho10 hb hg_ hnew_; clear hg_ hnew_; (first | rw [← Ny156.out] at ho10 | (simp only [Int.reduceToNat] at ho10; rw [← Ny156.out] at ho10)); have n0_ := Aside0.mk (Kd.R_elder' (stR HO_5.out) (Kd.R_base ho10) hb); have n1_ := Aside0.mk (Kd.R_lower (Kd.R_new' ho10 (Kd.R_lt (stR HO_5.out))) (below_size (stB HB.out))); have n2_ := Aside0.mk (below_step (stB HB.out) hb); clear HO_5; clear HB; have HO_5 := n0_; have HO158 := n1_; have HB := n2_; clear n0_ n1_ n2_; clear hb ho10) | ((with_reducible refine gate_builtin (b := .append) (xs := #[.tmp 33, .tmp 34]) rfl ?_); at_builtin; refine Kd.R_append_rows (Kd.int .u8) (w0 := w) w.heap.size rfl (.tmp 33) (.tmp 34) 28 5 (.int .u8 0) 1 rfl Try.underlying28 info5 rfl (by decide) (by omega) v157 y156 x5_2 _ _ _ (fun k_ => some k_ ≠ (.slice Ao8 x5_2.length co8 : Value).ownBlock) (fun _ => False) rfl rfl ?aO ?aR (fun _ _ h => h) (fun _ h => h.elim) ?aF ?aB ?aS ?aL ?_; (case aR => exact stC ((Kd.R_reads' HO_5.out).2.2)); (case aB => exact (stB HB.out)); (case aF => exact (fun k_ hk => Kd.fresh' (Kd.R_lt (stR HO_5.out)) k_ hk)); (case aO => exact (by (with_reducible repeat (first|apply Kd.R_alloc | apply Kd.R_drewN | apply Kd.R_drew)); exact Kd.R_mono HO158.out (fun _ hk => hk.2))); (case aS => exact (below_size (stB HB.out))); (case aL => have := LMc7.out; omega); intro v160 w11 ho hb hg hat; rw [← Ny159.out] at ho; have n0_ := Aside0.mk (Kd.R_after (ok := (fun _ => True)) (stR HO_5.out) hg hat); have n1_ := Aside0.mk (hb); have n2_ := Aside0.mk (ho); clear HO_5; clear HB; clear HO158; have HO_5 := n0_; have HB := n1_; have HO161 := n2_; clear n0_ n1_ n2_; clear ho hb hg hat))
       go_ret
       exact ⟨_, by first | rfl | (simp [errW_none, errW_some] <;> rfl) | (simp [*, errW_none, errW_some] <;> rfl), by (with_reducible repeat (first|apply Kd.R_alloc | apply Kd.R_drewN | apply Kd.R_drew)); exact Kd.R_mono HO161.out (fun _ hk => trivial), stB HB.out⟩
      ·rw [if_neg c7] at H
       exact absurd H (by simp)
def trivetref01_Put.l0 : Nat → List Int → List Int → Int → Option (List Int)
 | 0, _, _, _ => none
 | k + 1, x1, x5, x6 => if x6 < (x1.length : Int) then (if 0 ≤ x6 then ((trivetref01_Num.f k (rd x1 x6)).bind fun t166 => (if x5.length + t166.length < 140737488355328 then (trivetref01_Put.l0 k x1 (x5 ++ t166) (wrap64 (x6 + 1))) else (none))) else (none)) else (some x5)
def trivetref01_Put.f (k : Nat) (l0 : List Int) (l1 : List Int) : Option (List Int) := if ([] : List Int).length + l0.length < 140737488355328 then (trivetref01_Put.l0 k l1 (([] : List Int) ++ l0) 0) else (none)
set_option maxHeartbeats 8000000 in
set_option maxRecDepth 100000 in
theorem trivetref01_Put.calls (k : Nat) (A0 : Option Addr) (c0 : Nat) (l0 : List Int) (A1 : Option Addr) (c1 : Nat) (l1 : List Int) (r : List Int) (w : World) (hr0 : Kd.C (Kd.int .u8) w A0 l0.length l0) (hc0 : l0.length ≤ c0) (hr1 : Kd.C (Kd.int .i64) w A1 l1.length l1) (hc1 : l1.length ≤ c1) (h : trivetref01_Put.f k l0 l1 = some r) :
  Calls Try.prog 66 #[.slice A0 l0.length c0, .slice A1 l1.length c1] w fun e w' => ∃ v0_ : Value, e = .returned (v0_) ∧ Kd.R (Kd.int .u8) 5 w' w.heap.size (fun _ => True) v0_ r ∧ Below w.heap.size w w' := by
 have HR0 := Aside0.mk hr0
 have HC0 := Aside0.mk hc0
 clear hr0 hc0
 have HR1 := Aside0.mk hr1
 have HC1 := Aside0.mk hc1
 clear hr1 hc1
 have HB := Aside0.mk (Below.refl w.heap.size w)
 have H : (if ([] : List Int).length + l0.length < 140737488355328 then (trivetref01_Put.l0 k l1 (([] : List Int) ++ l0) 0) else (none)) = some r := h
 clear h
 by_cases c3 : ([] : List Int).length + l0.length < 140737488355328
 ·rw [if_pos c3] at H
  have LMc3 := Aside0.mk c3
  clear c3
  obtain ⟨y162, hy162⟩ : ∃ y_ : List Int, y_ = (([] : List Int) ++ l0) := ⟨_, rfl⟩
  replace H : (trivetref01_Put.l0 k l1 y162 0) = some r := by first | (rw [hy162]; with_reducible exact H) | (have H2_ := (Option.bind_some _ _).symm.trans H; rw [hy162]; with_reducible exact H2_) | (have H2_ := (Option.bind_some _ _).symm.trans H; with_reducible exact H2_) | with_reducible exact H | (rw [hy162]; exact H) | exact H
  have Ny162 := Aside0.mk hy162
  clear hy162
  have H' := Aside0.mk H
  clear H
  go_enter Try.func66, Try.ntmps66
  go_wp2_with (first | ((with_reducible refine gate_builtin (b := .append) (xs := #[.tmp 7, .tmp 8]) rfl ?_); at_builtin; refine Kd.R_append_rows (Kd.int .u8) (w0 := w) w.heap.size rfl (.tmp 7) (.tmp 8) 28 5 (.int .u8 0) 1 rfl Try.underlying28 info5 rfl (by decide) (by omega) (.slice none 0 0) ([] : List Int) l0 _ _ _ (fun _ => True) (fun _ => False) rfl rfl ?aO ?aR (fun _ _ h => h) (fun _ h => h.elim) ?aF ?aB ?aS ?aL ?_; (case aR => exact stC HR0.out); (case aB => exact (stB HB.out)); (case aF => exact (fun _ _ => trivial)); (case aO => exact ((Kd.R_nil _ _ _ _ (fun _ => True)))); (case aS => exact (below_size (stB HB.out))); (case aL => have := LMc3.out; omega); intro v163 w4 ho hb hg hat; rw [← Ny162.out] at ho; have n0_ := Aside0.mk (hb); have n1_ := Aside0.mk (ho); clear HB; have HB := n0_; have HO164 := n1_; clear n0_ n1_; clear ho hb hg hat))
  go_loopg [5, 6] k (fun kq v5 v6 w' => ∃ (x5_1 : List Int) (x6_1 : Int), v6 = .int .i64 x6_1 ∧ Aside0 (trivetref01_Put.l0 kq l1 x5_1 x6_1 = some r) ∧ Aside0 (kq ≤ k) ∧ Aside0 (Kd.R (Kd.int .u8) 5 w' w.heap.size (fun _ => True) v5 x5_1) ∧ Aside0 (Below w.heap.size w w'))
  case atStart => exact ⟨(y162), (0), (by first | rfl | (simp; done) | (simp [*]; done)), H', ⟨Nat.le_refl _⟩, ⟨stR HO164.out⟩, ⟨stB HB.out⟩⟩
  case round =>
   clear H'
   try clear c1
   try clear p2
   try clear c3
   obtain ⟨x5_1, x6_1, rfl, HA, HK1, HO_5, HB⟩ := hrel
   cases gk with
   | zero => exact absurd HA.out (by simp [trivetref01_Put.l0])
   | succ k1 =>
    have H := HA.out
    clear HA
    simp only [trivetref01_Put.l0] at H
    by_cases c5 : x6_1 < (l1.length : Int)
    ·rw [if_pos c5] at H
     have c5b0 : decide (x6_1 < (l1.length : Int)) = true := decide_eq_true c5
     clear c5
     by_cases c6 : 0 ≤ x6_1
     ·rw [if_pos c6] at H
      have c6b0 : decide (0 ≤ x6_1) = true := decide_eq_true c6
      clear c6
      replace H := Option.bind_eq_some_iff.mp H
      obtain ⟨t166, A70, H⟩ := H
      replace H : (if x5_1.length + t166.length < 140737488355328 then (trivetref01_Put.l0 k1 l1 (x5_1 ++ t166) (wrap64 (x6_1 + 1))) else (none)) = some r := H
      have A7 := Aside0.mk A70
      clear A70
      by_cases c8 : x5_1.length + t166.length < 140737488355328
      ·rw [if_pos c8] at H
       have LMc8 := Aside0.mk c8
       clear c8
       obtain ⟨y169, hy169⟩ : ∃ y_ : List Int, y_ = (x5_1 ++ t166) := ⟨_, rfl⟩
       replace H : (trivetref01_Put.l0 k1 l1 y169 (wrap64 (x6_1 + 1))) = some r := by first | (rw [hy169]; with_reducible exact H) | (have H2_ := (Option.bind_some _ _).symm.trans H; rw [hy169]; with_reducible exact H2_) | (have H2_ := (Option.bind_some _ _).symm.trans H; with_reducible exact H2_) | with_reducible exact H | (rw [hy169]; exact H) | exact H
       have Ny169 := Aside0.mk hy169
       clear hy169
       have H' := Aside0.mk H
       clear H
       have p165 : 0 ≤ (x6_1 : Int) := of_decide_eq_true (by first | (with_reducible assumption) | assumption)
       have q165 : x6_1 < (l1.length : Int) := of_decide_eq_true (by first | (with_reducible assumption) | assumption)
       obtain ⟨ad165, e165, hx165_0⟩ := Kd.at_int HR1.out x6_1 p165 q165
       cases e165
       replace hx165_0 := cu HB.out hx165_0
       replace p165 := eq_true p165
       replace q165 := eq_true q165
       go_wp2_with (first | ((with_reducible refine gate_callee (f := 78) rfl ?_); refine goesL_ (some 21) rfl rfl Try.func78 (by kernel_rfl) rfl #[.int .i64 (rd l1 x6_1)] rfl (by (try simp only [List.map_toArray, List.map_cons, List.map_nil]); first | done | rfl | (simp only [List.length_drop, List.length_take]; rfl)) ?_; (with_reducible refine (trivetref01_Num.calls k1 (rd l1 x6_1) t166 _ A7.out).mono ?_); rintro e w9 ⟨v167, rfl, ho0, hb⟩; refine ⟨_, rfl, ?_⟩; have n0_ := Aside0.mk (Kd.R_elder' (stR HO_5.out) (Kd.R_base ho0) hb); have n1_ := Aside0.mk (Kd.R_lower (Kd.R_new' ho0 (Kd.R_lt (stR HO_5.out))) (below_size (stB HB.out))); have n2_ := Aside0.mk (below_step (stB HB.out) hb); clear HO_5; clear HB; have HO_5 := n0_; have HO168 := n1_; have HB := n2_; clear n0_ n1_ n2_; (try clear hb); (try clear hb2); (try clear hk); (try clear hi); (try clear ho0); obtain ⟨Ao11, co11, eo11⟩ := Kd.R_slice HO168.out; subst eo11) | ((with_reducible refine gate_builtin (b := .append) (xs := #[.tmp 16, .tmp 21]) rfl ?_); at_builtin; refine Kd.R_append_rows (Kd.int .u8) (w0 := w) w.heap.size rfl (.tmp 16) (.tmp 21) 28 5 (.int .u8 0) 1 rfl Try.underlying28 info5 rfl (by decide) (by omega) u5 x5_1 t166 _ _ _ (fun k_ => some k_ ≠ (.slice Ao11 t166.length co11 : Value).ownBlock) (fun _ => False) rfl rfl ?aO ?aR (fun _ _ h => h) (fun _ h => h.elim) ?aF ?aB ?aS ?aL ?_; (case aR => exact stC ((Kd.R_reads' HO168.out).2.2)); (case aB => exact (stB HB.out)); (case aF => exact (fun k_ hk => Kd.fresh' (Kd.R_lt (stR HO168.out)) k_ hk)); (case aO => exact (by (with_reducible repeat (first|apply Kd.R_alloc | apply Kd.R_drewN | apply Kd.R_drew)); exact Kd.R_mono HO_5.out (fun _ hk => hk.2))); (case aS => exact (below_size (stB HB.out))); (case aL => have := LMc8.out; omega); intro v170 w10 ho hb hg hat; rw [← Ny169.out] at ho; have n0_ := Aside0.mk (Kd.R_after (ok := (fun _ => True)) (stR HO168.out) hg hat); have n1_ := Aside0.mk (hb); have n2_ := Aside0.mk (ho); clear HO168; clear HB; clear HO_5; have HO168 := n0_; have HB := n1_; have HO171 := n2_; clear n0_ n1_ n2_; clear ho hb hg hat))
       go_roundg k1
       case measure => have := HK1.out; omega
       case rel => exact ⟨(y169), (wrap64 (x6_1 + 1)), (by first | rfl | (simp; done) | (simp [*]; done)), H', ⟨by have := HK1.out; omega⟩, ⟨by (with_reducible repeat (first|apply Kd.R_alloc | apply Kd.R_drewN | apply Kd.R_drew)); exact Kd.R_mono HO171.out (fun _ hk => trivial)⟩, ⟨stB HB.out⟩⟩
      ·rw [if_neg c8] at H
       exact absurd H (by simp)
     ·rw [if_neg c6] at H
      exact absurd H (by simp)
    ·rw [if_neg c5] at H
     have c5b0 : decide (x6_1 < (l1.length : Int)) = false := decide_eq_false c5
     clear c5
     obtain rfl := Option.some.inj H
     go_wp2
     go_ret
     exact ⟨_, by first | rfl | (simp [errW_none, errW_some] <;> rfl) | (simp [*, errW_none, errW_some] <;> rfl), stR HO_5.out, stB HB.out⟩
 ·rw [if_neg c3] at H
  exact absurd H (by simp)
def trivetref04_num.f (k : Nat) (l0 : List Int) (l1 : List Int) : Option (List Int) := (trivetref01_Put.f k l0 l1).bind fun t172 => (some t172)
set_option maxHeartbeats 8000000 in
set_option maxRecDepth 100000 in
theorem trivetref04_num.calls (k : Nat) (A0 : Option Addr) (c0 : Nat) (l0 : List Int) (A1 : Option Addr) (c1 : Nat) (l1 : List Int) (r : List Int) (w : World) (hr0 : Kd.C (Kd.int .u8) w A0 l0.length l0) (hc0 : l0.length ≤ c0) (hr1 : Kd.C (Kd.int .i64) w A1 l1.length l1) (hc1 : l1.length ≤ c1) (h : trivetref04_num.f k l0 l1 = some r) :
  Calls Try.prog 51 #[.slice A0 l0.length c0, .slice A1 l1.length c1] w fun e w' => ∃ v0_ : Value, e = .returned (v0_) ∧ Kd.R (Kd.int .u8) 5 w' w.heap.size (fun _ => True) v0_ r ∧ Below w.heap.size w w' := by
 have HR0 := Aside0.mk hr0
 have HC0 := Aside0.mk hc0
 clear hr0 hc0
 have HR1 := Aside0.mk hr1
 have HC1 := Aside0.mk hc1
 clear hr1 hc1
 have HB := Aside0.mk (Below.refl w.heap.size w)
 have H : ((trivetref01_Put.f k l0 l1).bind fun t172 => (some t172)) = some r := h
 clear h
 replace H := Option.bind_eq_some_iff.mp H
 obtain ⟨t172, A30, H⟩ := H
 replace H : (some t172) = some r := H
 have A3 := Aside0.mk A30
 clear A30
 obtain rfl := Option.some.inj H
 go_enter Try.func51, Try.ntmps51
 go_wp2_with (first | ((with_reducible refine gate_callee (f := 66) rfl ?_); refine goesL_ (some 7) rfl rfl Try.func66 (by kernel_rfl) rfl #[.slice A0 l0.length c0, .slice A1 l1.length c1] rfl (by (try simp only [List.map_toArray, List.map_cons, List.map_nil]); first | done | rfl | (simp only [List.length_drop, List.length_take]; rfl)) ?_; (with_reducible refine (trivetref01_Put.calls k _ _ l0 _ _ l1 t172 _ ?side1 ?side2 ?side3 ?side4 A3.out).mono ?_); (case side1 => exact stC HR0.out); (case side2 => exact HC0.out); (case side3 => exact stC HR1.out); (case side4 => exact HC1.out); rintro e w4 ⟨v173, rfl, ho0, hb⟩; refine ⟨_, rfl, ?_⟩; have n0_ := Aside0.mk (Kd.R_lower ho0 (below_size (stB HB.out))); have n1_ := Aside0.mk (below_step (stB HB.out) hb); clear HB; have HO174 := n0_; have HB := n1_; clear n0_ n1_; (try clear hb); (try clear hb2); (try clear hk); (try clear hi); (try clear ho0)))
 go_ret
 exact ⟨_, by first | rfl | (simp [errW_none, errW_some] <;> rfl) | (simp [*, errW_none, errW_some] <;> rfl), stR HO174.out, stB HB.out⟩
def trivetref01_Blob.f (k : Nat) (l0 : List Int) (l1 : List Int) : Option (List Int) := (trivetref01_Put.f k l0 (([(l1.length : Int)] : List Int))).bind fun t178 => (if t178.length + l1.length < 140737488355328 then (some (t178 ++ l1)) else (none))
set_option maxHeartbeats 8000000 in
set_option maxRecDepth 100000 in
theorem trivetref01_Blob.calls (k : Nat) (A0 : Option Addr) (c0 : Nat) (l0 : List Int) (A1 : Option Addr) (c1 : Nat) (l1 : List Int) (r : List Int) (w : World) (hr0 : Kd.C (Kd.int .u8) w A0 l0.length l0) (hc0 : l0.length ≤ c0) (hr1 : Kd.C (Kd.int .u8) w A1 l1.length l1) (hc1 : l1.length ≤ c1) (h : trivetref01_Blob.f k l0 l1 = some r) :
  Calls Try.prog 67 #[.slice A0 l0.length c0, .slice A1 l1.length c1] w fun e w' => ∃ v0_ : Value, e = .returned (v0_) ∧ Kd.R (Kd.int .u8) 5 w' w.heap.size (fun _ => True) v0_ r ∧ Below w.heap.size w w' := by
 have HR0 := Aside0.mk hr0
 have HC0 := Aside0.mk hc0
 clear hr0 hc0
 have HR1 := Aside0.mk hr1
 have HC1 := Aside0.mk hc1
 clear hr1 hc1
 have HB := Aside0.mk (Below.refl w.heap.size w)
 have H : ((trivetref01_Put.f k l0 (([(l1.length : Int)] : List Int))).bind fun t178 => (if t178.length + l1.length < 140737488355328 then (some (t178 ++ l1)) else (none))) = some r := h
 clear h
 obtain ⟨y175, hy175⟩ : ∃ y_ : List Int, y_ = (([(l1.length : Int)] : List Int)) := ⟨_, rfl⟩
 replace H : ((trivetref01_Put.f k l0 y175).bind fun t178 => (if t178.length + l1.length < 140737488355328 then (some (t178 ++ l1)) else (none))) = some r := by first | (rw [hy175]; with_reducible exact H) | (have H2_ := (Option.bind_some _ _).symm.trans H; rw [hy175]; with_reducible exact H2_) | (have H2_ := (Option.bind_some _ _).symm.trans H; with_reducible exact H2_) | with_reducible exact H | (rw [hy175]; exact H) | exact H
 have Ny175 := Aside0.mk hy175
 clear hy175
 replace H := Option.bind_eq_some_iff.mp H
 obtain ⟨t178, A30, H⟩ := H
 replace H : (if t178.length + l1.length < 140737488355328 then (some (t178 ++ l1)) else (none)) = some r := H
 have A3 := Aside0.mk A30
 clear A30
 by_cases c4 : t178.length + l1.length < 140737488355328
 ·rw [if_pos c4] at H
  have LMc4 := Aside0.mk c4
  clear c4
  obtain ⟨y181, hy181⟩ : ∃ y_ : List Int, y_ = (t178 ++ l1) := ⟨_, rfl⟩
  replace H : (some y181) = some r := by first | (rw [hy181]; with_reducible exact H) | (have H2_ := (Option.bind_some _ _).symm.trans H; rw [hy181]; with_reducible exact H2_) | (have H2_ := (Option.bind_some _ _).symm.trans H; with_reducible exact H2_) | with_reducible exact H | (rw [hy181]; exact H) | exact H
  have Ny181 := Aside0.mk hy181
  clear hy181
  obtain rfl := Option.some.inj H
  go_enter Try.func67, Try.ntmps67
  go_wp2_with (first | ((with_reducible refine gate_dst (N := 8) rfl ?_); refine Kd.R_lit (Kd.int .i64) _ 2 ?hg (N := 8) ?hd (xs := ([(l1.length : Int)] : List Int)) (inner := [.int .i64 (l1.length : Int)]) (ok := fun _ => True) (okp := fun _ => True) ?hr ?hp (fun _ hk => hk) trivial (Below.refl _ _) (Nat.le_refl _) (by simp) ?_; (case hd => rfl); (case hg => rfl); (case hr => first | (go_simp; done) | (go_simp; rfl)); (case hp => exact (Reps.one (show Kd.M (Kd.int .i64) _ _ _ (l1.length : Int) [.int .i64 (l1.length : Int)] from rfl) (Reps.none _ _))); intro v176 w5 ho6 hb hg_ hnew_; clear hg_ hnew_; (first | rw [← Ny175.out] at ho6 | (simp only [Int.reduceToNat] at ho6; rw [← Ny175.out] at ho6)); have n0_ := Aside0.mk (Kd.R_lower ho6 (below_size (stB HB.out))); have n1_ := Aside0.mk (below_step (stB HB.out) hb); clear HB; have HO177 := n0_; have HB := n1_; clear n0_ n1_; clear hb ho6; obtain ⟨Ao7, co7, eo7⟩ := Kd.R_slice HO177.out; subst eo7) | ((with_reducible refine gate_callee (f := 66) rfl ?_); refine goesL_ (some 9) rfl rfl Try.func66 (by kernel_rfl) rfl #[.slice A0 l0.length c0, .slice Ao7 y175.length co7] rfl (by (try simp only [List.map_toArray, List.map_cons, List.map_nil]); first | done | rfl | (simp only [List.length_drop, List.length_take]; rfl)) ?_; (with_reducible refine (trivetref01_Put.calls k _ _ l0 _ _ y175 t178 _ ?side1 ?side2 ?side3 ?side4 A3.out).mono ?_); (case side1 => exact stC (Kd.C_below HR0.out HB.out)); (case side2 => exact HC0.out); (case side3 => exact stC ((Kd.R_reads' HO177.out).2.2)); (case side4 => exact (Kd.R_reads' HO177.out).2.1); rintro e w8 ⟨v179, rfl, ho0, hb⟩; refine ⟨_, rfl, ?_⟩; have n0_ := Aside0.mk (Kd.R_below (stR HO177.out) hb); have n1_ := Aside0.mk (Kd.R_lower ho0 (below_size (stB HB.out))); have n2_ := Aside0.mk (below_step (stB HB.out) hb); clear HO177; clear HB; have HO177 := n0_; have HO180 := n1_; have HB := n2_; clear n0_ n1_ n2_; (try clear hb); (try clear hb2); (try clear hk); (try clear hi); (try clear ho0)) | ((with_reducible refine gate_builtin (b := .append) (xs := #[.tmp 9, .tmp 10]) rfl ?_); at_builtin; refine Kd.R_append_rows (Kd.int .u8) (w0 := w) w.heap.size rfl (.tmp 9) (.tmp 10) 28 5 (.int .u8 0) 1 rfl Try.underlying28 info5 rfl (by decide) (by omega) v179 t178 l1 _ _ _ (fun _ => True) (fun _ => False) rfl rfl ?aO ?aR (fun _ _ h => h) (fun _ h => h.elim) ?aF ?aB ?aS ?aL ?_; (case aR => exact stC (Kd.C_below HR1.out HB.out)); (case aB => exact (stB HB.out)); (case aF => exact (fun _ _ => trivial)); (case aO => exact (stR HO180.out)); (case aS => exact (below_size (stB HB.out))); (case aL => have := LMc4.out; omega); intro v182 w9 ho hb hg hat; rw [← Ny181.out] at ho; have n0_ := Aside0.mk (Kd.R_over' (stR HO177.out) (Kd.R_typed (stR HO180.out)) (by decide) hg); have n1_ := Aside0.mk (hb); have n2_ := Aside0.mk (ho); clear HO177; clear HB; clear HO180; have HO177 := n0_; have HB := n1_; have HO183 := n2_; clear n0_ n1_ n2_; clear ho hb hg hat))
  go_ret
  exact ⟨_, by first | rfl | (simp [errW_none, errW_some] <;> rfl) | (simp [*, errW_none, errW_some] <;> rfl), stR HO183.out, stB HB.out⟩
 ·rw [if_neg c4] at H
  exact absurd H (by simp)
end Go.Proofs.Ytgmlpmdfkaadhaa.G
end

section
-- Written by a program of this session's (wip/gprint.py over the kit's printer).
namespace Go.Proofs.Ytgmlpmdfkaadhaa.G
open Go.RowKit Go.Proofs.YtgmlpmdfkaadhaaW.PrintWords Go.Proofs.YtgmlpmdfkaadhaaW.PrintLast Go.Proofs.YtgmlpmdfkaadhaaW.PrintMore
attribute [local go_sem] max2_int min2_int max_two min_two max_three min_three max_four min_four   -- for this text's walks alone
def record_who.f (a0 : Int) : Option (Bool) := (record_between.f 0 4 (([a0] : List Int))).bind fun t247 => (some t247)
set_option maxHeartbeats 8000000 in
set_option maxRecDepth 100000 in
theorem record_who.calls (a0 : Int) (r : Bool) (w : World) (h : record_who.f a0 = some r) :
  Calls Try.prog 56 #[.int .i64 a0] w fun e w' => e = .returned (.bool r) ∧ Below w.heap.size w w' := by
 have HB := Aside0.mk (Below.refl w.heap.size w)
 have H : ((record_between.f 0 4 (([a0] : List Int))).bind fun t247 => (some t247)) = some r := h
 clear h
 obtain ⟨y244, hy244⟩ : ∃ y_ : List Int, y_ = (([a0] : List Int)) := ⟨_, rfl⟩
 replace H : ((record_between.f 0 4 y244).bind fun t247 => (some t247)) = some r := by first | (rw [hy244]; with_reducible exact H) | (have H2_ := (Option.bind_some _ _).symm.trans H; rw [hy244]; with_reducible exact H2_) | (have H2_ := (Option.bind_some _ _).symm.trans H; with_reducible exact H2_) | with_reducible exact H | (rw [hy244]; exact H) | exact H
 have Ny244 := Aside0.mk hy244
 clear hy244
 replace H := Option.bind_eq_some_iff.mp H
 obtain ⟨t247, A20, H⟩ := H
 replace H : (some t247) = some r := H
 have A2 := Aside0.mk A20
 clear A20
 obtain rfl := Option.some.inj H
 go_enter Try.func56, Try.ntmps56
 go_wp2_with (first | ((with_reducible refine gate_dst (N := 4) rfl ?_); refine Kd.R_lit (Kd.int .i64) _ 2 ?hg (N := 4) ?hd (xs := ([a0] : List Int)) (inner := [.int .i64 a0]) (ok := fun _ => True) (okp := fun _ => True) ?hr ?hp (fun _ hk => hk) trivial (Below.refl _ _) (Nat.le_refl _) (by simp) ?_; (case hd => rfl); (case hg => rfl); (case hr => first | (go_simp; done) | (go_simp; rfl)); (case hp => exact (Reps.one (show Kd.M (Kd.int .i64) _ _ _ a0 [.int .i64 a0] from rfl) (Reps.none _ _))); intro v245 w3 ho4 hb hg_ hnew_; clear hg_ hnew_; (first | rw [← Ny244.out] at ho4 | (simp only [Int.reduceToNat] at ho4; rw [← Ny244.out] at ho4)); have n0_ := Aside0.mk (Kd.R_lower ho4 (below_size (stB HB.out))); have n1_ := Aside0.mk (below_step (stB HB.out) hb); clear HB; have HO246 := n0_; have HB := n1_; clear n0_ n1_; clear hb ho4; obtain ⟨Ao5, co5, eo5⟩ := Kd.R_slice HO246.out; subst eo5) | ((with_reducible refine gate_callee (f := 55) rfl ?_); refine goesL_ (some 5) rfl rfl Try.func55 (by kernel_rfl) rfl #[.int .i64 0, .int .i64 4, .slice Ao5 y244.length co5] rfl (by (try simp only [List.map_toArray, List.map_cons, List.map_nil]); first | done | rfl | (simp only [List.length_drop, List.length_take]; rfl)) ?_; (with_reducible refine (record_between.calls 0 4 _ _ y244 t247 _ ?side1 ?side2 A2.out).mono ?_); (case side1 => exact stC ((Kd.R_reads' HO246.out).2.2)); (case side2 => exact (Kd.R_reads' HO246.out).2.1); rintro e w6 ⟨rfl, hb⟩; refine ⟨_, rfl, ?_⟩; have n0_ := Aside0.mk (Kd.R_below (stR HO246.out) hb); have n1_ := Aside0.mk (below_step (stB HB.out) hb); clear HO246; clear HB; have HO246 := n0_; have HB := n1_; clear n0_ n1_; (try clear hb); (try clear hb2); (try clear hk); (try clear hi)))
 go_ret
 exact ⟨by first | rfl | (simp [errW_none, errW_some] <;> rfl) | (simp [*, errW_none, errW_some] <;> rfl), stB HB.out⟩
def record_count.f (l0 : List Int) : Option (Bool) := (record_between.f 0 1099511627776 l0).bind fun t248 => (some t248)
set_option maxHeartbeats 8000000 in
set_option maxRecDepth 100000 in
theorem record_count.calls (A0 : Option Addr) (c0 : Nat) (l0 : List Int) (r : Bool) (w : World) (hr0 : Kd.C (Kd.int .i64) w A0 l0.length l0) (hc0 : l0.length ≤ c0) (h : record_count.f l0 = some r) :
  Calls Try.prog 57 #[.slice A0 l0.length c0] w fun e w' => e = .returned (.bool r) ∧ Below w.heap.size w w' := by
 have HR0 := Aside0.mk hr0
 have HC0 := Aside0.mk hc0
 clear hr0 hc0
 have HB := Aside0.mk (Below.refl w.heap.size w)
 have H : ((record_between.f 0 1099511627776 l0).bind fun t248 => (some t248)) = some r := h
 clear h
 replace H := Option.bind_eq_some_iff.mp H
 obtain ⟨t248, A20, H⟩ := H
 replace H : (some t248) = some r := H
 have A2 := Aside0.mk A20
 clear A20
 obtain rfl := Option.some.inj H
 go_enter Try.func57, Try.ntmps57
 go_wp2_with (first | ((with_reducible refine gate_callee (f := 55) rfl ?_); refine goesL_ (some 4) rfl rfl Try.func55 (by kernel_rfl) rfl #[.int .i64 0, .int .i64 1099511627776, .slice A0 l0.length c0] rfl (by (try simp only [List.map_toArray, List.map_cons, List.map_nil]); first | done | rfl | (simp only [List.length_drop, List.length_take]; rfl)) ?_; (with_reducible refine (record_between.calls 0 1099511627776 _ _ l0 t248 _ ?side1 ?side2 A2.out).mono ?_); (case side1 => exact stC HR0.out); (case side2 => exact HC0.out); rintro e w3 ⟨rfl, hb⟩; refine ⟨_, rfl, ?_⟩; have n0_ := Aside0.mk (below_step (stB HB.out) hb); clear HB; have HB := n0_; clear n0_; (try clear hb); (try clear hb2); (try clear hk); (try clear hi)))
 go_ret
 exact ⟨by first | rfl | (simp [errW_none, errW_some] <;> rfl) | (simp [*, errW_none, errW_some] <;> rfl), stB HB.out⟩
end Go.Proofs.Ytgmlpmdfkaadhaa.G
end

section
/- record.SameEntry. -/
namespace Go.Proofs.Ytgmlpmdfkaadhaa.M
open Go.RowKit Go.Proofs.YtgmlpmdfkaadhaaW.PrintWords Go.Proofs.YtgmlpmdfkaadhaaW.PrintLast Go.Proofs.YtgmlpmdfkaadhaaW.PrintMore Go.Proofs.Ytgmlpmdfkaadhaa.G
structure TxAt (w : World) (p : Addr) (x : TxD) (A2 : Option Addr) (c2 : Nat) (A3 : Option Addr) (c3 : Nat) (A4 : Option Addr) (c4 : Nat) (A5 : Option Addr) (c5 : Nat) : Prop where
 e0 : w.cell? p = some (.int .i64 x.f0)
 e1 : w.cell? ⟨p.block, p.off + 1, none⟩ = some (.int .i64 x.f1)
 e2 : w.cell? ⟨p.block, p.off + 2, none⟩ = some (.slice A2 x.f2.length c2)
 e3 : w.cell? ⟨p.block, p.off + 3, none⟩ = some (.slice A3 x.f3.length c3)
 e4 : w.cell? ⟨p.block, p.off + 4, none⟩ = some (.slice A4 x.f4.length c4)
 e5 : w.cell? ⟨p.block, p.off + 5, none⟩ = some (.slice A5 x.f5.length c5)
structure TxC (w : World) (x : TxD) (A2 : Option Addr) (c2 : Nat) (A3 : Option Addr) (c3 : Nat) (A4 : Option Addr) (c4 : Nat) (A5 : Option Addr) (c5 : Nat) : Prop where
 l2 : x.f2.length ≤ c2
 g2 : (Kd.int .u8).C w A2 x.f2.length x.f2
 l3 : x.f3.length ≤ c3
 g3 : (Kd.int .i64).C w A3 x.f3.length x.f3
 l4 : x.f4.length ≤ c4
 g4 : G.k54.C w A4 x.f4.length x.f4
 l5 : x.f5.length ≤ c5
 g5 : G.k54.C w A5 x.f5.length x.f5
theorem TxC.below {w w' : World} {x : TxD} {A2 A3 A4 A5 : Option Addr} {c2 c3 c4 c5 : Nat} (h : TxC w x A2 c2 A3 c3 A4 c4 A5 c5) (hb : Below w.heap.size w w') : TxC w' x A2 c2 A3 c3 A4 c4 A5 c5 :=
 ⟨h.l2, Kd.C_below h.g2 hb, h.l3, Kd.C_below h.g3 hb, h.l4, Kd.C_below h.g4 hb, h.l5, Kd.C_below h.g5 hb⟩
theorem TxC.le {w : World} {x : TxD} {A2 A3 A4 A5 : Option Addr} {c2 c3 c4 c5 : Nat} (h : TxC w x A2 c2 A3 c3 A4 c4 A5 c5) : TxLe x 9223372036854775807 := ⟨h.g2.2.1, h.g3.2.1, h.g4.2.1, h.g5.2.1⟩
theorem tx_get {w : World} {A : Option Addr} {n : Nat} {l : List TxD} (h : Kd.C G.k32 w A n l) {k : Nat} {x : TxD} (hk : l[k]? = some x) :
  ∃ ad A2 c2 A3 c3 A4 c4 A5 c5, A = some ad ∧ TxAt w (ad.add (k * 6)) x A2 c2 A3 c3 A4 c4 A5 c5 ∧ TxC w x A2 c2 A3 c3 A4 c4 A5 c5 := by
 have hlt : k < n := by
  have := (List.getElem?_eq_some_iff.1 hk).1
  have := h.1
  omega
 obtain ⟨ad, A2, c2, A3, c3, A4, c4, A5, c5, rfl, h0, h1, h2, h3, h4, h5, l2, g2, l3, g3, l4, g4, l5, g5⟩ := G.at_T32 h (k : Int) (by omega) (by omega)
 have e : G.rd_T32 l (k : Int) = x := by unfold G.rd_T32; rw [Int.toNat_natCast, List.getD_eq_getElem?_getD, hk]; rfl
 rw [e] at h0 h1 h2 h3 h4 h5 l2 g2 l3 g3 l4 g4 l5 g5
 rw [Int.toNat_natCast] at h0 h1 h2 h3 h4 h5
 exact ⟨ad, A2, c2, A3, c3, A4, c4, A5, c5, rfl, ⟨h0, h1, h2, h3, h4, h5⟩, ⟨l2, g2, l3, g3, l4, g4, l5, g5⟩⟩
theorem sameTx_is {w : World} (a b : TxD) {A2 A3 A4 A5 B2 B3 B4 B5 : Option Addr} {c2 c3 c4 c5 d2 d3 d4 d5 : Nat} (ha : TxC w a A2 c2 A3 c3 A4 c4 A5 c5) (hb : TxC w b B2 d2 B3 d3 B4 d4 B5 d5) :
  Calls Try.prog 69 #[.agg #[.int .i64 a.f0, .int .i64 a.f1, .slice A2 a.f2.length c2, .slice A3 a.f3.length c3, .slice A4 a.f4.length c4, .slice A5 a.f5.length c5], .agg #[.int .i64 b.f0, .int .i64 b.f1, .slice B2 b.f2.length d2, .slice B3 b.f3.length d3, .slice B4 b.f4.length d4, .slice B5 b.f5.length d5]] w fun e w' => e = .returned (.bool (eqTx a b)) ∧ Below w.heap.size w w' :=
 G.record_SameTxn.calls (a.f3.length + a.f4.length + a.f5.length + 1) a.f0 a.f1 A2 c2 a.f2 A3 c3 a.f3 A4 c4 a.f4 A5 c5 a.f5 b.f0 b.f1 B2 d2 b.f2 B3 d3 b.f3 B4 d4 b.f4 B5 d5 b.f5 _ w ha.g2 ha.l2 ha.g3 ha.l3 ha.g4 ha.l4 ha.g5 ha.l5 hb.g2 hb.l2 hb.g3 hb.l3 hb.g4 hb.l4 hb.g5 hb.l5 (sameTxn_p _ a b ha.le ⟨by omega, by omega, by omega⟩)
theorem eqTs_take {a b : List TxD} {i : Nat} {x y : TxD} (hx : a[i]? = some x) (hy : b[i]? = some y) : eqTs (a.drop i) (b.drop i) = (eqTx x y && eqTs (a.drop (i + 1)) (b.drop (i + 1))) := by
 rw [drop_cons hx, drop_cons hy]; rfl
def EqI (a b : List TxD) (w : World) (i : Value) (wr : World) : Prop := ∃ k : Nat, i = .int .i64 k ∧ k ≤ a.length ∧ eqTs a b = eqTs (a.drop k) (b.drop k) ∧ Below w.heap.size w wr
set_option maxHeartbeats 1000000 in
theorem eqfunc_is (A B : Option Addr) (c d : Nat) (a b : List TxD) (w : World) (ha : Kd.C G.k32 w A a.length a) (hb : Kd.C G.k32 w B b.length b) :
  Calls Try.prog 14 #[.slice A a.length c, .slice B b.length d, .func (.func 69) #[] #[]] w fun e w' => e = .returned (.bool (eqTs a b)) ∧ Below w.heap.size w w' := by
 have hlm : a.length ≤ 9223372036854775807 := ha.2.1
 have HA := Lib.hid ha; have HB := Lib.hid hb
 clear ha hb
 by_cases hl : a.length = b.length
 ·have hlb : ((a.length : Int) != (b.length : Int)) = false := by rw [bne_eq_false_iff_eq]; omega
  have HL := Lib.hid hl
  clear hl
  go_enter Try.func14, Try.ntmps14
  go_wp2_with fail
  go_loopw [17] (fun i wr => EqI a b w i wr) (fun i _ => a.length - (intOf i).toNat)
  case atStart => exact ⟨0, rfl, Nat.zero_le _, rfl, Below.refl _ _⟩
  case round =>
   obtain ⟨k, rfl, hk, he, hb⟩ := hrel
   have HE := Lib.hid he; have HBr := Lib.hid hb
   clear he hb
   by_cases hlt : k < a.length
   ·obtain ⟨x, hx⟩ : ∃ x, a[k]? = some x := ⟨_, List.getElem?_eq_getElem hlt⟩
    obtain ⟨y, hy⟩ : ∃ y, b[k]? = some y := ⟨_, List.getElem?_eq_getElem (by have := HL.out; omega)⟩
    obtain ⟨ad, A2, c2, A3, c3, A4, c4, A5, c5, rfl, ⟨x0, x1, x2, x3, x4, x5⟩, hX⟩ := tx_get (Kd.C_below HA.out HBr.out) hx
    obtain ⟨bd, B2, d2, B3, d3, B4, d4, B5, d5, rfl, ⟨y0, y1, y2, y3, y4, y5⟩, hY⟩ := tx_get (Kd.C_below HB.out HBr.out) hy
    have HXX := Lib.hid hX; have HYY := Lib.hid hY
    have HS := Lib.hid (eqTs_take hx hy)
    have hkb : k < b.length := by have := HL.out; omega
    clear hX hY hx hy
    have zb : (bd.add (k * 6)).block < wr.heap.size := World.block_lt_of_cell? _ _ y0
    go_wp2_with fail
    have HB2 := Lib.hid (show Below wr.heap.size wr ((wr.alloc (.cells #[.int .i64 x.f0, .int .i64 x.f1, .slice A2 x.f2.length c2, .slice A3 x.f3.length c3, .slice A4 x.f4.length c4, .slice A5 x.f5.length c5] 32)).alloc (.cells #[.int .i64 y.f0, .int .i64 y.f1, .slice B2 y.f2.length d2, .slice B3 y.f3.length d3, .slice B4 y.f4.length d4, .slice B5 y.f5.length d5] 32)) from ((Below.refl _ _).alloc (Nat.le_refl _) _).alloc (by simp) _)
    refine (sameTx_is x y (HXX.out.below HB2.out) (HYY.out.below HB2.out)).mono ?_
    rintro e w' ⟨rfl, hb⟩
    have HB3 := Lib.hid (HBr.out.trans ((HB2.out.trans (hb.mono HB2.out.size)).mono HBr.out.size))
    clear hb x0 x1 x2 x3 x4 x5 y0 y1 y2 y3 y4 y5 zb
    obtain ⟨q, hq⟩ : ∃ q, eqTx x y = q := ⟨_, rfl⟩
    have HQ := Lib.hid hq
    rw [hq]
    clear hq
    cases q with
    | true =>
     go_wp2_with fail
     go_roundw
     case rel => exact ⟨k + 1, by go_num, hlt, by rw [HE.out, HS.out, HQ.out, Bool.true_and], HB3.out⟩
     case measure => simp [intOf]; omega
    | false =>
     go_wp2_with fail
     go_ret
     exact ⟨by rw [HE.out, HS.out, HQ.out]; rfl, HB3.out⟩
   ·have HF := Lib.hid (show eqTs a b = true by rw [HE.out, List.drop_of_length_le (by omega), List.drop_of_length_le (by have := HL.out; omega)]; rfl)
    go_wp2_with fail
    go_ret
    exact ⟨by rw [HF.out]; rfl, HBr.out⟩
 ·have hlb : ((a.length : Int) != (b.length : Int)) = true := by rw [bne_iff_ne]; omega
  have HF := Lib.hid (eqTs_len hl)
  clear hl
  go_enter Try.func14, Try.ntmps14
  go_wp2_with fail
  go_ret
  exact ⟨by rw [HF.out]; rfl, Below.refl _ _⟩
set_option maxHeartbeats 1000000 in
theorem sameEn_is (k f n : Int) (A : Option Addr) (c : Nat) (l : List TxD) (k' f' n' : Int) (A' : Option Addr) (c' : Nat) (l' : List TxD) (w : World) (ha : Kd.C G.k32 w A l.length l) (hb : Kd.C G.k32 w A' l'.length l') :
  Calls Try.prog 54 #[.agg #[.int .i64 k, .int .i64 f, .int .i64 n, .slice A l.length c], .agg #[.int .i64 k', .int .i64 f', .int .i64 n', .slice A' l'.length c']] w fun e w' => e = .returned (.bool (eqEn k f n l k' f' n' l')) ∧ Below w.heap.size w w' := by
 obtain ⟨q, hq⟩ : ∃ q, eqEn k f n l k' f' n' l' = q := ⟨_, rfl⟩
 have HQ := Lib.hid hq
 rw [hq]
 clear hq
 have HB := Lib.hid (show Below w.heap.size w ((w.alloc (.cells #[.int .i64 k, .int .i64 f, .int .i64 n, .slice A l.length c] 36)).alloc (.cells #[.int .i64 k', .int .i64 f', .int .i64 n', .slice A' l'.length c'] 36)) from ((Below.refl _ _).alloc (Nat.le_refl _) _).alloc (by simp) _)
 have HE := Lib.hid (eqfunc_is A A' c c' l l' _ (Kd.C_below ha HB.out) (Kd.C_below hb HB.out))
 clear ha hb
 cases h0 : (k == k') with
 | false =>
  have HV := Lib.hid (show q = false by rw [← HQ.out]; unfold eqEn; rw [h0, Bool.false_and])
  go_enter Try.func54, Try.ntmps54
  go_wp2_with fail
  go_ret
  exact ⟨by rw [HV.out]; rfl, HB.out⟩
 | true =>
  cases h1 : (f == f') with
  | false =>
   have HV := Lib.hid (show q = false by rw [← HQ.out]; unfold eqEn; rw [h1, Bool.false_and, Bool.and_false])
   go_enter Try.func54, Try.ntmps54
   go_wp2_with fail
   go_ret
   exact ⟨by rw [HV.out]; rfl, HB.out⟩
  | true =>
   cases h2 : (n == n') with
   | false =>
    have HV := Lib.hid (show q = false by rw [← HQ.out]; unfold eqEn; rw [h2, Bool.false_and, Bool.and_false, Bool.and_false])
    go_enter Try.func54, Try.ntmps54
    go_wp2_with fail
    go_ret
    exact ⟨by rw [HV.out]; rfl, HB.out⟩
   | true =>
    have HV := Lib.hid (show q = eqTs l l' by rw [← HQ.out]; unfold eqEn; rw [h0, h1, h2, Bool.true_and, Bool.true_and, Bool.true_and])
    go_enter Try.func54, Try.ntmps54
    go_wp2_with fail
    refine HE.out.mono ?_
    rintro e w' ⟨rfl, hb⟩
    have HB2 := Lib.hid (HB.out.trans (hb.mono HB.out.size))
    clear hb
    go_wp2_with fail
    go_ret
    exact ⟨by rw [HV.out]; rfl, HB2.out⟩
end Go.Proofs.Ytgmlpmdfkaadhaa.M
namespace Go.Proofs.Ytgmlpmdfkaadhaa.G
open Go.RowKit Go.Proofs.YtgmlpmdfkaadhaaW.PrintWords Go.Proofs.Ytgmlpmdfkaadhaa.M
def record_SameEntry.f (a0_0 a0_1 a0_2 : Int) (l0_3 : List S32) (a1_0 a1_1 a1_2 : Int) (l1_3 : List S32) : Option Bool := some (eqEn a0_0 a0_1 a0_2 l0_3 a1_0 a1_1 a1_2 l1_3)
theorem record_SameEntry.calls (a0_0 a0_1 a0_2 : Int) (A0_3 : Option Addr) (c0_3 : Nat) (l0_3 : List S32) (a1_0 a1_1 a1_2 : Int) (A1_3 : Option Addr) (c1_3 : Nat) (l1_3 : List S32) (r : Bool) (w : World) (hr0_3 : Kd.C k32 w A0_3 l0_3.length l0_3) (hc0_3 : l0_3.length ≤ c0_3) (hr1_3 : Kd.C k32 w A1_3 l1_3.length l1_3) (hc1_3 : l1_3.length ≤ c1_3) (h : record_SameEntry.f a0_0 a0_1 a0_2 l0_3 a1_0 a1_1 a1_2 l1_3 = some r) :
  Calls Try.prog 54 #[.agg #[.int .i64 a0_0, .int .i64 a0_1, .int .i64 a0_2, .slice A0_3 l0_3.length c0_3], .agg #[.int .i64 a1_0, .int .i64 a1_1, .int .i64 a1_2, .slice A1_3 l1_3.length c1_3]] w fun e w' => e = .returned (.bool r) ∧ Below w.heap.size w w' := by
 obtain rfl := Option.some.inj h
 exact sameEn_is a0_0 a0_1 a0_2 A0_3 c0_3 l0_3 a1_0 a1_1 a1_2 A1_3 c1_3 l1_3 w hr0_3 hr1_3
end Go.Proofs.Ytgmlpmdfkaadhaa.G
end

section
/- record.entry: which entries may be. -/
namespace Go.Proofs.Ytgmlpmdfkaadhaa.M
open Go.RowKit Go.Proofs.YtgmlpmdfkaadhaaW.PrintWords Go.Proofs.YtgmlpmdfkaadhaaW.PrintLast Go.Proofs.YtgmlpmdfkaadhaaW.PrintMore Go.Proofs.Ytgmlpmdfkaadhaa.G
theorem C_lit (w : World) (xs : List Int) (hm : xs.length ≤ 1000) : Kd.C (Kd.int .i64) (w.alloc (.cells (xs.map (Value.int .i64)).toArray 2)) (some ⟨w.heap.size, 0, none⟩) xs.length xs := by
 have h : Kd.R (Kd.int .i64) 2 (w.alloc (.cells (xs.map (Value.int .i64)).toArray 2)) w.heap.size (fun _ => True) (.slice (some ⟨w.heap.size, 0, none⟩) xs.length xs.length) xs :=
  Kd.R_of_own (own_lit w w.heap.size 2 .i64 xs (Nat.le_refl _) (by omega)) (fun _ _ => trivial)
 exact (Kd.R_reads' h).2.2
def mayT (t : TxD) : Bool := inB 1 1099511627776 [t.f0, t.f1] && (decide (t.f2.length ≤ 512) && (decide (t.f3.length ≤ 8) && (mayK t.f4 && mayK t.f5)))
def mayE (k f n : Int) (l : List TxD) : Bool := if k = 0 then eqEn k f n l 0 0 0 [] else (k == 1 && (inB 0 4 [f] && (inB 0 1099511627776 [n] && (inB 1 16 [(l.length : Int)] && l.all mayT))))
theorem record_txn_f (t : TxD) : G.record_txn.f t.f0 t.f1 t.f2 t.f3 t.f4 t.f5 = some (mayT t) := by
 unfold G.record_txn.f mayT G.record_between.f G.record_keys.f
 simp only [Option.bind_some]
 cases h1 : inB 1 1099511627776 [t.f0, t.f1]
 ·simp
 ·by_cases h2 : t.f2.length ≤ 512
  ·by_cases h3 : t.f3.length ≤ 8
   ·rw [if_pos rfl, if_pos (by omega), if_pos (by omega)]
    cases h4 : mayK t.f4 <;> simp [h2, h3]
   ·rw [if_pos rfl, if_pos (by omega), if_neg (by omega)]
    simp [h3]
  ·rw [if_pos rfl, if_neg (by omega)]
   simp [h2]
theorem mayTx_is {w : World} (a : TxD) {A2 A3 A4 A5 : Option Addr} {c2 c3 c4 c5 : Nat} (ha : TxC w a A2 c2 A3 c3 A4 c4 A5 c5) :
  Calls Try.prog 60 #[.agg #[.int .i64 a.f0, .int .i64 a.f1, .slice A2 a.f2.length c2, .slice A3 a.f3.length c3, .slice A4 a.f4.length c4, .slice A5 a.f5.length c5]] w fun e w' => e = .returned (.bool (mayT a)) ∧ Below w.heap.size w w' :=
 G.record_txn.calls a.f0 a.f1 A2 c2 a.f2 A3 c3 a.f3 A4 c4 a.f4 A5 c5 a.f5 _ w ha.g2 ha.l2 ha.g3 ha.l3 ha.g4 ha.l4 ha.g5 ha.l5 (record_txn_f a)
theorem entry1_is {w : World} (a : TxD) {A2 A3 A4 A5 : Option Addr} {c2 c3 c4 c5 : Nat} (ha : TxC w a A2 c2 A3 c3 A4 c4 A5 c5) :
  Calls Try.prog 59 #[.agg #[.int .i64 a.f0, .int .i64 a.f1, .slice A2 a.f2.length c2, .slice A3 a.f3.length c3, .slice A4 a.f4.length c4, .slice A5 a.f5.length c5]] w fun e w' => e = .returned (.bool (!mayT a)) ∧ Below w.heap.size w w' := by
 have HB := Lib.hid (show Below w.heap.size w (w.alloc (.cells #[.int .i64 a.f0, .int .i64 a.f1, .slice A2 a.f2.length c2, .slice A3 a.f3.length c3, .slice A4 a.f4.length c4, .slice A5 a.f5.length c5] 32)) from (Below.refl _ _).alloc (Nat.le_refl _) _)
 have HA := Lib.hid (ha.below HB.out)
 clear ha
 go_enter Try.func59, Try.ntmps59
 go_wp2_with fail
 refine (mayTx_is a HA.out).mono ?_
 rintro e w' ⟨rfl, hb⟩
 have HB2 := Lib.hid (HB.out.trans (hb.mono HB.out.size))
 clear hb
 go_wp2_with fail
 go_ret
 exact ⟨by simp, HB2.out⟩
def TxV (l : List TxD) (w : World) (e : Ending) (w' : World) : Prop := ∃ i : Int, e = .returned (.int .i64 i) ∧ (0 ≤ i ↔ l.all mayT = false) ∧ Below w.heap.size w w'
def TxI (l : List TxD) (w : World) (i : Value) (wr : World) : Prop := ∃ k : Nat, k ≤ l.length ∧ i = .int .i64 k ∧ (l.take k).all mayT = true ∧ Below w.heap.size w wr
set_option maxHeartbeats 1000000 in
theorem tx_index (A : Option Addr) (c : Nat) (l : List TxD) (w : World) (hr : Kd.C G.k32 w A l.length l) :
  Calls Try.prog 72 #[.slice A l.length c, .func (.func 59) #[] #[]] w fun e w' => TxV l w e w' := by
 have hlm : l.length ≤ 9223372036854775807 := hr.2.1
 have HR := Lib.hid hr
 clear hr
 go_enter Try.func72, Try.ntmps72
 go_wp2_with fail
 go_loopw [8] (fun i wr => TxI l w i wr) (fun i _ => l.length - (intOf i).toNat)
 case atStart => exact ⟨0, Nat.zero_le _, rfl, by simp, Below.refl _ _⟩
 case round =>
  obtain ⟨k, hk, rfl, hin, hb⟩ := hrel
  have HIN := Lib.hid hin; have HBr := Lib.hid hb
  clear hin hb
  by_cases hlt : k < l.length
  ·obtain ⟨x, hx⟩ : ∃ x, l[k]? = some x := ⟨_, List.getElem?_eq_getElem hlt⟩
   obtain ⟨ad, A2, c2, A3, c3, A4, c4, A5, c5, rfl, ⟨x0, x1, x2, x3, x4, x5⟩, hX⟩ := tx_get (Kd.C_below HR.out HBr.out) hx
   have HXX := Lib.hid hX
   have HX := Lib.hid (show l.take (k + 1) = l.take k ++ [x] by rw [List.take_add_one, hx]; rfl)
   have HM := Lib.hid (List.mem_of_getElem? hx)
   clear hx hX
   go_wp2_with fail
   refine (entry1_is x HXX.out).mono ?_
   rintro e w' ⟨rfl, hb⟩
   have HB2 := Lib.hid (HBr.out.trans (hb.mono HBr.out.size))
   clear hb
   cases ho : mayT x with
   | false =>
    have HB := Lib.hid (show l.all mayT = false by rw [List.all_eq_false]; exact ⟨x, HM.out, by rw [ho]; simp⟩)
    clear ho
    go_wp2_with fail
    go_ret
    exact ⟨k, rfl, ⟨fun _ => HB.out, fun _ => by omega⟩, HB2.out⟩
   | true =>
    have HB := Lib.hid (show (l.take (k + 1)).all mayT = true by rw [HX.out, List.all_append, HIN.out]; simp [ho])
    clear ho
    go_wp2_with fail
    go_roundw
    case rel => exact ⟨k + 1, hlt, by go_num, HB.out, HB2.out⟩
    case measure => simp [intOf]; omega
  ·have HB := Lib.hid (show l.all mayT = true by have := HIN.out; rwa [List.take_of_length_le (by omega)] at this)
   go_wp2_with fail
   go_ret
   exact ⟨-1, rfl, ⟨fun h => by omega, fun h => by rw [HB.out] at h; cases h⟩, HBr.out⟩
theorem tx_has (A : Option Addr) (c : Nat) (l : List TxD) (w : World) (hr : Kd.C G.k32 w A l.length l) :
  Calls Try.prog 58 #[.slice A l.length c, .func (.func 59) #[] #[]] w fun e w' => e = .returned (.bool (!l.all mayT)) ∧ Below w.heap.size w w' := by
 have H := Lib.hid (tx_index A c l w hr)
 clear hr
 go_enter Try.func58, Try.ntmps58
 go_wp2_with fail
 refine H.out.mono ?_
 rintro e w' ⟨i, rfl, hi, hb⟩
 have HI := Lib.hid hi; have HB := Lib.hid hb
 clear hi hb
 go_wp2_with fail
 go_ret
 refine ⟨?_, HB.out⟩
 show Ending.returned (.bool (decide (0 ≤ i))) = _
 cases hb : l.all mayT with
 | true => rw [decide_eq_false (fun h => by have := HI.out.1 h; rw [hb] at this; cases this)]; rfl
 | false => rw [decide_eq_true (HI.out.2 hb)]; rfl
def EnBox (W : World) (b : Nat) (k f n : Int) (A : Option Addr) (m c : Nat) : Prop := W.heap[b]? = some (.cells #[.int .i64 k, .int .i64 f, .int .i64 n, .slice A m c] 36)
theorem EnBox.cell {W : World} {b : Nat} {k f n : Int} {A : Option Addr} {m c : Nat} (h : EnBox W b k f n A m c) : W.cell? ⟨b, 0, none⟩ = some (.int .i64 k) ∧ W.cell? ⟨b, 1, none⟩ = some (.int .i64 f) ∧ W.cell? ⟨b, 2, none⟩ = some (.int .i64 n) ∧ W.cell? ⟨b, 3, none⟩ = some (.slice A m c) ∧ b < W.heap.size := by
 unfold EnBox at h
 exact ⟨by simp [World.cell?, h], by simp [World.cell?, h], by simp [World.cell?, h], by simp [World.cell?, h], (Array.getElem?_eq_some_iff.1 h).1⟩
theorem EnBox.below {W W' : World} {b : Nat} {k f n : Int} {A : Option Addr} {m c : Nat} (h : EnBox W b k f n A m c) (hb : Below W.heap.size W W') : EnBox W' b k f n A m c := (hb.block b h.cell.2.2.2.2).trans h
theorem below_then {a b c : World} (h : Below a.heap.size a b) (k : Below b.heap.size b c) : Below a.heap.size a c := h.trans (k.mono h.size)
set_option maxHeartbeats 2000000 in
theorem mayEn_is (k f n : Int) (A : Option Addr) (c : Nat) (l : List TxD) (w : World) (hr : Kd.C G.k32 w A l.length l) :
  Calls Try.prog 41 #[.agg #[.int .i64 k, .int .i64 f, .int .i64 n, .slice A l.length c]] w fun e w' => e = .returned (.bool (mayE k f n l)) ∧ Below w.heap.size w w' := by
 have hlm : l.length ≤ 9223372036854775807 := hr.2.1
 obtain ⟨q, hq⟩ : ∃ q, mayE k f n l = q := ⟨_, rfl⟩
 have HQ := Lib.hid hq
 rw [hq]
 clear hq
 have HB1 := Lib.hid (show Below w.heap.size w (w.alloc (.cells #[.int .i64 k, .int .i64 f, .int .i64 n, .slice A l.length c] 36)) from (Below.refl _ _).alloc (Nat.le_refl _) _)
 have HX1 := Lib.hid (show EnBox (w.alloc (.cells #[.int .i64 k, .int .i64 f, .int .i64 n, .slice A l.length c] 36)) w.heap.size k f n A l.length c from heap_alloc_new w _)
 have HR1 := Lib.hid (Kd.C_below hr HB1.out)
 clear hr
 cases h0 : (k == 0) with
 | true =>
  have hk0 : k = 0 := by simpa using h0
  subst hk0
  have HV := Lib.hid (show q = eqEn 0 f n l 0 0 0 [] by rw [← HQ.out]; unfold mayE; rw [if_pos rfl])
  have HS := Lib.hid (sameEn_is 0 f n A c l 0 0 0 none 0 [] _ HR1.out (Kd.C_nil _ _))
  simp only [List.length_nil] at HS
  go_enter Try.func41, Try.ntmps41
  go_wp2_with fail
  refine HS.out.mono ?_
  rintro e w' ⟨rfl, hb⟩
  have HB2 := Lib.hid (below_then HB1.out hb)
  clear hb
  go_wp2_with fail
  go_ret
  exact ⟨by rw [HV.out]; rfl, HB2.out⟩
 | false =>
  have hk0 : k ≠ 0 := by simpa using h0
  have HV := Lib.hid (show q = (k == 1 && (inB 0 4 [f] && (inB 0 1099511627776 [n] && (inB 1 16 [(l.length : Int)] && l.all mayT)))) by rw [← HQ.out]; unfold mayE; rw [if_neg hk0])
  clear hk0
  go_enter Try.func41, Try.ntmps41
  go_wp2_with fail
  have HB2 := Lib.hid (below_then HB1.out ((Below.refl _ (w.alloc (.cells #[.int .i64 k, .int .i64 f, .int .i64 n, .slice A l.length c] 36))).alloc (Nat.le_refl _) (.cells #[.int .i64 l.length] 2)))
  have HX2 := Lib.hid (HX1.out.below ((Below.refl _ (w.alloc (.cells #[.int .i64 k, .int .i64 f, .int .i64 n, .slice A l.length c] 36))).alloc (Nat.le_refl _) (.cells #[.int .i64 l.length] 2)))
  have HR2 := Lib.hid (Kd.C_below HR1.out ((Below.refl _ (w.alloc (.cells #[.int .i64 k, .int .i64 f, .int .i64 n, .slice A l.length c] 36))).alloc (Nat.le_refl _) (.cells #[.int .i64 l.length] 2)))
  have HL := C_lit (w.alloc (.cells #[.int .i64 k, .int .i64 f, .int .i64 n, .slice A l.length c] 36)) [(l.length : Int)] (by simp)
  simp only [World.size_alloc, List.length_singleton] at HL
  refine (between_is _ 1 [(l.length : Int)] 1 16 _ HL).mono ?_
  rintro e w3 ⟨rfl, hb⟩
  have HB3 := Lib.hid (below_then HB2.out hb); have HX3 := Lib.hid (HX2.out.below hb); have HR3 := Lib.hid (Kd.C_below HR2.out hb)
  clear hb HL
  obtain ⟨b4, hb4⟩ : ∃ b4, inB 1 16 [(l.length : Int)] = b4 := ⟨_, rfl⟩
  rw [hb4] at HV ⊢
  obtain ⟨c0, c1, c2, c3, cz⟩ := HX3.out.cell
  cases h1 : (k == 1) with
  | false =>
   have HW := Lib.hid (show q = false by rw [HV.out, h1, Bool.false_and])
   clear hb4
   go_wp2_with fail
   go_ret
   exact ⟨by rw [HW.out]; rfl, HB3.out⟩
  | true =>
   have HW := Lib.hid (show q = (inB 0 4 [f] && (inB 0 1099511627776 [n] && (b4 && l.all mayT))) by rw [HV.out, h1, Bool.true_and])
   clear hb4
   go_wp2_with fail
   refine (G.record_who.calls f (inB 0 4 [f]) w3 rfl).mono ?_
   rintro e w4 ⟨rfl, hb⟩
   have HB4 := Lib.hid (below_then HB3.out hb); have HX4 := Lib.hid (HX3.out.below hb); have HR4 := Lib.hid (Kd.C_below HR3.out hb)
   clear hb c0 c1 c2 c3 cz
   obtain ⟨c0, c1, c2, c3, cz⟩ := HX4.out.cell
   obtain ⟨b2, hb2⟩ : ∃ b2, inB 0 4 [f] = b2 := ⟨_, rfl⟩
   rw [hb2] at HW ⊢
   clear hb2
   cases b2 with
   | false =>
    have HF := Lib.hid (show q = false by rw [HW.out, Bool.false_and])
    go_wp2_with fail
    go_ret
    exact ⟨by rw [HF.out]; rfl, HB4.out⟩
   | true =>
    go_wp2_with fail
    have HL := C_lit w4 [n] (by simp)
    simp only [List.length_singleton] at HL
    refine (G.record_count.calls _ 1 [n] (inB 0 1099511627776 [n]) _ HL (by simp) rfl).mono ?_
    rintro e w5 ⟨rfl, hb⟩
    have hb' := below_then ((Below.refl _ w4).alloc (Nat.le_refl _) _) hb
    have HB5 := Lib.hid (below_then HB4.out hb'); have HX5 := Lib.hid (HX4.out.below hb'); have HR5 := Lib.hid (Kd.C_below HR4.out hb')
    clear hb hb' HL c0 c1 c2 c3 cz
    obtain ⟨c0, c1, c2, c3, cz⟩ := HX5.out.cell
    obtain ⟨b3, hb3⟩ : ∃ b3, inB 0 1099511627776 [n] = b3 := ⟨_, rfl⟩
    rw [hb3] at HW ⊢
    clear hb3
    cases b3 with
    | false =>
     have HF := Lib.hid (show q = false by rw [HW.out, Bool.false_and, Bool.and_false])
     go_wp2_with fail
     go_ret
     exact ⟨by rw [HF.out]; rfl, HB5.out⟩
    | true =>
     cases b4 with
     | false =>
      have HF := Lib.hid (show q = false by rw [HW.out, Bool.false_and, Bool.and_false, Bool.and_false])
      go_wp2_with fail
      go_ret
      exact ⟨by rw [HF.out]; rfl, HB5.out⟩
     | true =>
      have HF := Lib.hid (show q = l.all mayT by rw [HW.out, Bool.true_and, Bool.true_and, Bool.true_and])
      go_wp2_with fail
      refine (tx_has A c l _ HR5.out).mono ?_
      rintro e w6 ⟨rfl, hb⟩
      have HB6 := Lib.hid (below_then HB5.out hb)
      clear hb
      go_wp2_with fail
      go_ret
      exact ⟨by rw [HF.out]; simp, HB6.out⟩
end Go.Proofs.Ytgmlpmdfkaadhaa.M
namespace Go.Proofs.Ytgmlpmdfkaadhaa.G
open Go.RowKit Go.Proofs.YtgmlpmdfkaadhaaW.PrintWords Go.Proofs.Ytgmlpmdfkaadhaa.M
def record_entry.f (a0_0 a0_1 a0_2 : Int) (l0_3 : List S32) : Option Bool := some (mayE a0_0 a0_1 a0_2 l0_3)
theorem record_entry.calls (a0_0 a0_1 a0_2 : Int) (A0_3 : Option Addr) (c0_3 : Nat) (l0_3 : List S32) (r : Bool) (w : World) (hr0_3 : Kd.C k32 w A0_3 l0_3.length l0_3) (hc0_3 : l0_3.length ≤ c0_3) (h : record_entry.f a0_0 a0_1 a0_2 l0_3 = some r) :
  Calls Try.prog 41 #[.agg #[.int .i64 a0_0, .int .i64 a0_1, .int .i64 a0_2, .slice A0_3 l0_3.length c0_3]] w fun e w' => e = .returned (.bool r) ∧ Below w.heap.size w w' := by
 obtain rfl := Option.some.inj h
 exact mayEn_is a0_0 a0_1 a0_2 A0_3 c0_3 l0_3 w hr0_3
end Go.Proofs.Ytgmlpmdfkaadhaa.G
end

section
-- Written by a program of this session's (wip/gprint.py over the kit's printer).
namespace Go.Proofs.Ytgmlpmdfkaadhaa.G
open Go.RowKit Go.Proofs.YtgmlpmdfkaadhaaW.PrintWords Go.Proofs.YtgmlpmdfkaadhaaW.PrintLast Go.Proofs.YtgmlpmdfkaadhaaW.PrintMore
attribute [local go_sem] max2_int min2_int max_two min_two max_three min_three max_four min_four   -- for this text's walks alone
def trivetref04_count.f (a0 : Int) : Option (Bool) := if a0 ≥ 0 then (some (decide (a0 ≤ 1099511627776))) else (some false)
set_option maxHeartbeats 8000000 in
set_option maxRecDepth 100000 in
theorem trivetref04_count.calls (a0 : Int) (r : Bool) (w : World) (h : trivetref04_count.f a0 = some r) :
  Calls Try.prog 50 #[.int .i64 a0] w fun e w' => e = .returned (.bool r) ∧ Drawn0 w w' := by
 have H : (if a0 ≥ 0 then (some (decide (a0 ≤ 1099511627776))) else (some false)) = some r := h
 clear h
 by_cases c2 : a0 ≥ 0
 ·rw [if_pos c2] at H
  have c2b0 : decide (0 ≤ a0) = true := decide_eq_true c2
  clear c2
  obtain rfl := Option.some.inj H
  go_enter Try.func50, Try.ntmps50
  go_wp2
  go_ret
  exact ⟨by first | rfl | (simp; done) | (simp [*]; done), by repeat (first | exact Drawn0.refl _ | apply Drawn0.step)⟩
 ·rw [if_neg c2] at H
  have c2b0 : decide (0 ≤ a0) = false := decide_eq_false c2
  clear c2
  obtain rfl := Option.some.inj H
  go_enter Try.func50, Try.ntmps50
  go_wp2
  go_ret
  exact ⟨by first | rfl | (simp; done) | (simp [*]; done), by repeat (first | exact Drawn0.refl _ | apply Drawn0.step)⟩
def trivetref04_Less.f (a0_0 : Int) (a0_1 : Int) (a1_0 : Int) (a1_1 : Int) : Option (Bool) := if a0_0 < a1_0 then (some true) else (if a0_0 = a1_0 then (some (decide (a0_1 < a1_1))) else (some false))
set_option maxHeartbeats 8000000 in
set_option maxRecDepth 100000 in
theorem trivetref04_Less.calls (a0_0 : Int) (a0_1 : Int) (a1_0 : Int) (a1_1 : Int) (r : Bool) (w : World) (h : trivetref04_Less.f a0_0 a0_1 a1_0 a1_1 = some r) :
  Calls Try.prog 77 #[.agg #[.int .i32 a0_0, .int .i64 a0_1], .agg #[.int .i32 a1_0, .int .i64 a1_1]] w fun e w' => e = .returned (.bool r) ∧ Below w.heap.size w w' := by
 have hu54 := Try.underlying54
 have HB := Aside0.mk (Below.refl w.heap.size w)
 have H : (if a0_0 < a1_0 then (some true) else (if a0_0 = a1_0 then (some (decide (a0_1 < a1_1))) else (some false))) = some r := h
 clear h
 by_cases c3 : a0_0 < a1_0
 ·rw [if_pos c3] at H
  have c3b0 : decide (a0_0 < a1_0) = true := decide_eq_true c3
  clear c3
  obtain rfl := Option.some.inj H
  go_enter Try.func77, Try.ntmps77
  go_wp2_with (first | ((with_reducible refine gate_dst (N := 2) rfl ?_); refine box_event ?hg (N := 2) ?hd (cs := #[.int .i32 a0_0, .int .i64 a0_1]) (t := 54) ?hr ?_; (case hd => rfl); (case hg => rfl); (case hr => first | (go_simp; done) | (go_simp; rfl)); intro gb228 hg w4 hbox hb; have n0_ := Aside0.mk (below_step (stB HB.out) hb); have n1_ := Aside0.mk (hbox); have n2_ := Aside0.mk ((by rw [hg]; exact (below_size (stB HB.out)) : w.heap.size ≤ gb228)); have n3_ := Aside0.mk ((by rw [hg]; exact (below_size (stB HB.out)) : w.heap.size ≤ gb228)); clear HB; have HB := n0_; have BK228 := n1_; have GW228 := n2_; have GE228 := n3_; clear n0_ n1_ n2_ n3_; clear hb hbox hg) | ((with_reducible refine gate_dst (N := 3) rfl ?_); refine box_event ?hg (N := 3) ?hd (cs := #[.int .i32 a1_0, .int .i64 a1_1]) (t := 54) ?hr ?_; (case hd => rfl); (case hg => rfl); (case hr => first | (go_simp; done) | (go_simp; rfl)); intro gb229 hg w5 hbox hb; have n0_ := Aside0.mk (blk_below (g := gb228) (o := .cells #[.int .i32 a0_0, .int .i64 a0_1] 54 (0, 0)) (stK BK228.out) hb); have n1_ := Aside0.mk (below_step (by repeat (first | (with_reducible first | exact HB.out | apply below_alloc | apply pw_below_drewN | apply below_drew1 | refine below_set ?_ GE228.out) | exact HB.out)) hb); have n2_ := Aside0.mk (hbox); have n3_ := Aside0.mk ((by rw [hg]; exact (below_size (by repeat (first | (with_reducible first | exact HB.out | apply below_alloc | apply pw_below_drewN | apply below_drew1 | refine below_set ?_ GE228.out) | exact HB.out))) : w.heap.size ≤ gb229)); have n4_ := Aside0.mk ((by rw [hg]; exact (below_size (by repeat (first | (with_reducible first | exact HB.out | apply below_alloc | apply pw_below_drewN | apply below_drew1 | refine below_set ?_ GE228.out) | exact HB.out))) : w.heap.size ≤ gb229)); have n5_ := Aside0.mk ((by rw [hg]; exact Nat.ne_of_lt (blk_lt (g := gb228) (o := .cells #[.int .i32 a0_0, .int .i64 a0_1] 54 (0, 0)) (stK BK228.out)) : gb228 ≠ gb229)); have n6_ := Aside0.mk ((by rw [hg]; exact Nat.ne_of_gt (blk_lt (g := gb228) (o := .cells #[.int .i32 a0_0, .int .i64 a0_1] 54 (0, 0)) (stK BK228.out)) : gb229 ≠ gb228)); clear BK228; clear HB; have BK228 := n0_; have HB := n1_; have BK229 := n2_; have GW229 := n3_; have GE229 := n4_; have NB228_229 := n5_; have NB229_228 := n6_; clear n0_ n1_ n2_ n3_ n4_ n5_ n6_; clear hb hbox hg; have hnb6 := NB228_229.out; have hnc6 := NB229_228.out; obtain ⟨hcz7_0, hcz7_1⟩ := bc2 BK228.out; obtain ⟨hfz7_0, hfz7_1⟩ := bf2 BK228.out; obtain ⟨hcz8_0, hcz8_1⟩ := bc2 BK229.out; obtain ⟨hfz8_0, hfz8_1⟩ := bf2 BK229.out))
  go_ret
  exact ⟨by first | rfl | (simp [errW_none, errW_some] <;> rfl) | (simp [*, errW_none, errW_some] <;> rfl), by repeat (first | (with_reducible first | exact HB.out | apply below_alloc | apply pw_below_drewN | apply below_drew1 | refine below_set ?_ GE228.out | refine below_set ?_ GE229.out) | exact HB.out)⟩
 ·rw [if_neg c3] at H
  have c3b0 : decide (a0_0 < a1_0) = false := decide_eq_false c3
  clear c3
  by_cases c9 : a0_0 = a1_0
  ·rw [if_pos c9] at H
   have c9b0 : (a0_0 == a1_0) = true := beq_iff_eq.mpr c9
   have c9b1 : (a0_0 != a1_0) = false := bne_eq_false_iff_eq.mpr c9
   clear c9
   obtain rfl := Option.some.inj H
   go_enter Try.func77, Try.ntmps77
   go_wp2_with (first | ((with_reducible refine gate_dst (N := 2) rfl ?_); refine box_event ?hg (N := 2) ?hd (cs := #[.int .i32 a0_0, .int .i64 a0_1]) (t := 54) ?hr ?_; (case hd => rfl); (case hg => rfl); (case hr => first | (go_simp; done) | (go_simp; rfl)); intro gb228 hg w10 hbox hb; have n0_ := Aside0.mk (below_step (stB HB.out) hb); have n1_ := Aside0.mk (hbox); have n2_ := Aside0.mk ((by rw [hg]; exact (below_size (stB HB.out)) : w.heap.size ≤ gb228)); have n3_ := Aside0.mk ((by rw [hg]; exact (below_size (stB HB.out)) : w.heap.size ≤ gb228)); clear HB; have HB := n0_; have BK228 := n1_; have GW228 := n2_; have GE228 := n3_; clear n0_ n1_ n2_ n3_; clear hb hbox hg) | ((with_reducible refine gate_dst (N := 3) rfl ?_); refine box_event ?hg (N := 3) ?hd (cs := #[.int .i32 a1_0, .int .i64 a1_1]) (t := 54) ?hr ?_; (case hd => rfl); (case hg => rfl); (case hr => first | (go_simp; done) | (go_simp; rfl)); intro gb229 hg w11 hbox hb; have n0_ := Aside0.mk (blk_below (g := gb228) (o := .cells #[.int .i32 a0_0, .int .i64 a0_1] 54 (0, 0)) (stK BK228.out) hb); have n1_ := Aside0.mk (below_step (by repeat (first | (with_reducible first | exact HB.out | apply below_alloc | apply pw_below_drewN | apply below_drew1 | refine below_set ?_ GE228.out) | exact HB.out)) hb); have n2_ := Aside0.mk (hbox); have n3_ := Aside0.mk ((by rw [hg]; exact (below_size (by repeat (first | (with_reducible first | exact HB.out | apply below_alloc | apply pw_below_drewN | apply below_drew1 | refine below_set ?_ GE228.out) | exact HB.out))) : w.heap.size ≤ gb229)); have n4_ := Aside0.mk ((by rw [hg]; exact (below_size (by repeat (first | (with_reducible first | exact HB.out | apply below_alloc | apply pw_below_drewN | apply below_drew1 | refine below_set ?_ GE228.out) | exact HB.out))) : w.heap.size ≤ gb229)); have n5_ := Aside0.mk ((by rw [hg]; exact Nat.ne_of_lt (blk_lt (g := gb228) (o := .cells #[.int .i32 a0_0, .int .i64 a0_1] 54 (0, 0)) (stK BK228.out)) : gb228 ≠ gb229)); have n6_ := Aside0.mk ((by rw [hg]; exact Nat.ne_of_gt (blk_lt (g := gb228) (o := .cells #[.int .i32 a0_0, .int .i64 a0_1] 54 (0, 0)) (stK BK228.out)) : gb229 ≠ gb228)); clear BK228; clear HB; have BK228 := n0_; have HB := n1_; have BK229 := n2_; have GW229 := n3_; have GE229 := n4_; have NB228_229 := n5_; have NB229_228 := n6_; clear n0_ n1_ n2_ n3_ n4_ n5_ n6_; clear hb hbox hg; have hnb12 := NB228_229.out; have hnc12 := NB229_228.out; obtain ⟨hcz13_0, hcz13_1⟩ := bc2 BK228.out; obtain ⟨hfz13_0, hfz13_1⟩ := bf2 BK228.out; obtain ⟨hcz14_0, hcz14_1⟩ := bc2 BK229.out; obtain ⟨hfz14_0, hfz14_1⟩ := bf2 BK229.out))
   go_ret
   exact ⟨by first | rfl | (simp [errW_none, errW_some] <;> rfl) | (simp [*, errW_none, errW_some] <;> rfl), by repeat (first | (with_reducible first | exact HB.out | apply below_alloc | apply pw_below_drewN | apply below_drew1 | refine below_set ?_ GE228.out | refine below_set ?_ GE229.out) | exact HB.out)⟩
  ·rw [if_neg c9] at H
   have c9b0 : (a0_0 == a1_0) = false := beq_eq_false_iff_ne.mpr c9
   have c9b1 : (a0_0 != a1_0) = true := bne_iff_ne.mpr c9
   obtain rfl := Option.some.inj H
   go_enter Try.func77, Try.ntmps77
   go_wp2_with (first | ((with_reducible refine gate_dst (N := 2) rfl ?_); refine box_event ?hg (N := 2) ?hd (cs := #[.int .i32 a0_0, .int .i64 a0_1]) (t := 54) ?hr ?_; (case hd => rfl); (case hg => rfl); (case hr => first | (go_simp; done) | (go_simp; rfl)); intro gb228 hg w15 hbox hb; have n0_ := Aside0.mk (below_step (stB HB.out) hb); have n1_ := Aside0.mk (hbox); have n2_ := Aside0.mk ((by rw [hg]; exact (below_size (stB HB.out)) : w.heap.size ≤ gb228)); have n3_ := Aside0.mk ((by rw [hg]; exact (below_size (stB HB.out)) : w.heap.size ≤ gb228)); clear HB; have HB := n0_; have BK228 := n1_; have GW228 := n2_; have GE228 := n3_; clear n0_ n1_ n2_ n3_; clear hb hbox hg) | ((with_reducible refine gate_dst (N := 3) rfl ?_); refine box_event ?hg (N := 3) ?hd (cs := #[.int .i32 a1_0, .int .i64 a1_1]) (t := 54) ?hr ?_; (case hd => rfl); (case hg => rfl); (case hr => first | (go_simp; done) | (go_simp; rfl)); intro gb229 hg w16 hbox hb; have n0_ := Aside0.mk (blk_below (g := gb228) (o := .cells #[.int .i32 a0_0, .int .i64 a0_1] 54 (0, 0)) (stK BK228.out) hb); have n1_ := Aside0.mk (below_step (by repeat (first | (with_reducible first | exact HB.out | apply below_alloc | apply pw_below_drewN | apply below_drew1 | refine below_set ?_ GE228.out) | exact HB.out)) hb); have n2_ := Aside0.mk (hbox); have n3_ := Aside0.mk ((by rw [hg]; exact (below_size (by repeat (first | (with_reducible first | exact HB.out | apply below_alloc | apply pw_below_drewN | apply below_drew1 | refine below_set ?_ GE228.out) | exact HB.out))) : w.heap.size ≤ gb229)); have n4_ := Aside0.mk ((by rw [hg]; exact (below_size (by repeat (first | (with_reducible first | exact HB.out | apply below_alloc | apply pw_below_drewN | apply below_drew1 | refine below_set ?_ GE228.out) | exact HB.out))) : w.heap.size ≤ gb229)); have n5_ := Aside0.mk ((by rw [hg]; exact Nat.ne_of_lt (blk_lt (g := gb228) (o := .cells #[.int .i32 a0_0, .int .i64 a0_1] 54 (0, 0)) (stK BK228.out)) : gb228 ≠ gb229)); have n6_ := Aside0.mk ((by rw [hg]; exact Nat.ne_of_gt (blk_lt (g := gb228) (o := .cells #[.int .i32 a0_0, .int .i64 a0_1] 54 (0, 0)) (stK BK228.out)) : gb229 ≠ gb228)); clear BK228; clear HB; have BK228 := n0_; have HB := n1_; have BK229 := n2_; have GW229 := n3_; have GE229 := n4_; have NB228_229 := n5_; have NB229_228 := n6_; clear n0_ n1_ n2_ n3_ n4_ n5_ n6_; clear hb hbox hg; have hnb17 := NB228_229.out; have hnc17 := NB229_228.out; obtain ⟨hcz18_0, hcz18_1⟩ := bc2 BK228.out; obtain ⟨hfz18_0, hfz18_1⟩ := bf2 BK228.out; obtain ⟨hcz19_0, hcz19_1⟩ := bc2 BK229.out; obtain ⟨hfz19_0, hfz19_1⟩ := bf2 BK229.out))
   go_ret
   exact ⟨by first | rfl | (simp [errW_none, errW_some] <;> rfl) | (simp [*, errW_none, errW_some] <;> rfl), by repeat (first | (with_reducible first | exact HB.out | apply below_alloc | apply pw_below_drewN | apply below_drew1 | refine below_set ?_ GE228.out | refine below_set ?_ GE229.out) | exact HB.out)⟩
def trivetref04_MayKeys.l0 : Nat → List (S54) → Int → Option (Bool)
 | 0, _, _ => none
 | k + 1, x0, x3 => if x3 < (x0.length : Int) then (if 0 ≤ (wrap64 (x3 - 1)) then (if (wrap64 (x3 - 1)) < (x0.length : Int) then (if 0 ≤ x3 then ((trivetref04_Less.f ((rd_T54 x0 (wrap64 (x3 - 1))).f0) ((rd_T54 x0 (wrap64 (x3 - 1))).f1) ((rd_T54 x0 x3).f0) ((rd_T54 x0 x3).f1)).bind fun t232 => (if t232 = true then (trivetref04_MayKeys.l0 k x0 (wrap64 (x3 + 1))) else (some false))) else (none)) else (none)) else (none)) else (some (decide ((x0.length : Int) ≤ 16)))
def trivetref04_MayKeys.f (k : Nat) (l0 : List (S54)) : Option (Bool) := trivetref04_MayKeys.l0 k l0 1
def trivetref04_MayKeys.T4 : Bool × List (List Nat × List Nat) := (true, [([], []), ([], []), ([1], [1]), ([0, 2], [0, 2]), ([3], [3]), ([], []), ([], []), ([5, 6], [5, 6]), ([7], [7]), ([4, 8], [4, 8]), ([9], [9])])
def trivetref04_MayKeys.B4 : List Nat := [0, 0, 2, 7, 15, 0, 0, 96, 224, 511, 1023]
theorem trivetref04_MayKeys.tab4 : rtab .any (opsOf Try.f65 4) = trivetref04_MayKeys.T4 := by kernel_rfl
theorem trivetref04_MayKeys.bits4 : waitsOk trivetref04_MayKeys.T4.2 trivetref04_MayKeys.B4 = true := by kernel_rfl
set_option maxHeartbeats 8000000 in
set_option maxRecDepth 100000 in
theorem trivetref04_MayKeys.calls (k : Nat) (A0 : Option Addr) (c0 : Nat) (l0 : List (S54)) (r : Bool) (w : World) (hr0 : Kd.C k54 w A0 l0.length l0) (hc0 : l0.length ≤ c0) (h : trivetref04_MayKeys.f k l0 = some r) :
  Calls Try.prog 65 #[.slice A0 l0.length c0] w fun e w' => e = .returned (.bool r) ∧ Below w.heap.size w w' := by
 have hu54 := Try.underlying54
 have HR0 := Aside0.mk hr0
 have HC0 := Aside0.mk hc0
 clear hr0 hc0
 have HB := Aside0.mk (Below.refl w.heap.size w)
 have H : (trivetref04_MayKeys.l0 k l0 1) = some r := h
 clear h
 have H' := Aside0.mk H
 clear H
 go_enter Try.func65, Try.ntmps65
 go_wp2
 go_loopg [3] k (fun kq v3 w' => ∃ (x3_1 : Int), v3 = .int .i64 x3_1 ∧ Aside0 (trivetref04_MayKeys.l0 kq l0 x3_1 = some r) ∧ Aside0 (kq ≤ k) ∧ Aside0 (Below w.heap.size w w'))
 case atStart => exact ⟨(1), (by first | rfl | (simp; done) | (simp [*]; done)), H', ⟨Nat.le_refl _⟩, ⟨stB HB.out⟩⟩
 case round =>
  clear H'
  obtain ⟨x3_1, rfl, HA, HK1, HB⟩ := hrel
  cases gk with
  | zero => exact absurd HA.out (by simp [trivetref04_MayKeys.l0])
  | succ k1 =>
   have H := HA.out
   clear HA
   simp only [trivetref04_MayKeys.l0] at H
   by_cases c2 : x3_1 < (l0.length : Int)
   ·rw [if_pos c2] at H
    have c2b0 : decide (x3_1 < (l0.length : Int)) = true := decide_eq_true c2
    clear c2
    obtain ⟨ji3, hji3⟩ : ∃ j_ : Int, (wrap64 (x3_1 - 1)) = j_ := ⟨_, rfl⟩
    replace H : (if 0 ≤ (ji3) then (if (ji3) < (l0.length : Int) then (if 0 ≤ x3_1 then ((trivetref04_Less.f ((rd_T54 l0 (ji3)).f0) ((rd_T54 l0 (ji3)).f1) ((rd_T54 l0 x3_1).f0) ((rd_T54 l0 x3_1).f1)).bind fun t232 => (if t232 = true then (trivetref04_MayKeys.l0 k1 l0 (wrap64 (x3_1 + 1))) else (some false))) else (none)) else (none)) else (none)) = some r := by first | (rw [hji3] at H; exact H) | (simp only [hji3] at H ⊢; exact H)
    have hji3w : (IntKind.i64.wrap (x3_1 - 1)) = ji3 := (i64_w _).trans hji3
    by_cases c4 : 0 ≤ (ji3)
    ·rw [if_pos c4] at H
     have c4b0 : decide (0 ≤ (ji3)) = true := decide_eq_true c4
     clear c4
     by_cases c5 : (ji3) < (l0.length : Int)
     ·rw [if_pos c5] at H
      have c5b0 : decide ((ji3) < (l0.length : Int)) = true := decide_eq_true c5
      clear c5
      by_cases c6 : 0 ≤ x3_1
      ·rw [if_pos c6] at H
       have c6b0 : decide (0 ≤ x3_1) = true := decide_eq_true c6
       clear c6
       replace H := Option.bind_eq_some_iff.mp H
       obtain ⟨t232, A70, H⟩ := H
       replace H : (if t232 = true then (trivetref04_MayKeys.l0 k1 l0 (wrap64 (x3_1 + 1))) else (some false)) = some r := H
       have A7 := Aside0.mk A70
       clear A70
       by_cases c8 : t232 = true
       ·subst c8
        have H1 : (trivetref04_MayKeys.l0 k1 l0 (wrap64 (x3_1 + 1))) = some r := by rw [if_pos rfl] at H; exact H
        clear H
        have H := H1
        clear H1
        have H' := Aside0.mk H
        clear H
        try go_wp2
        have n0_ := Aside0.mk (below_drew1 HB.out)
        clear HB
        have HB := n0_
        clear n0_
        have p230 : 0 ≤ ((ji3) : Int) := of_decide_eq_true (by first | (with_reducible assumption) | assumption)
        have q230 : (ji3) < (l0.length : Int) := of_decide_eq_true (by first | (with_reducible assumption) | assumption)
        obtain ⟨ad230, e230, hx230_0, hx230_1⟩ := at_T54 HR0.out (ji3) p230 q230
        have hw230_1 := hx230_1
        have hw230_0 := hx230_0
        cases e230
        replace hx230_0 := cu HB.out hx230_0
        replace hx230_1 := cu HB.out hx230_1
        replace p230 := eq_true p230
        replace q230 := eq_true q230
        have p231 : 0 ≤ (x3_1 : Int) := of_decide_eq_true (by first | (with_reducible assumption) | assumption)
        have q231 : x3_1 < (l0.length : Int) := of_decide_eq_true (by first | (with_reducible assumption) | assumption)
        obtain ⟨ad231, e231, hx231_0, hx231_1⟩ := at_T54 HR0.out x3_1 p231 q231
        have hw231_1 := hx231_1
        have hw231_0 := hx231_0
        obtain rfl : ad230 = ad231 := (by injection e231)
        replace hx231_0 := cu HB.out hx231_0
        replace hx231_1 := cu HB.out hx231_1
        replace p231 := eq_true p231
        replace q231 := eq_true q231
        refine start_ (n := 11) (S := fun w' => w'.cell? (ad230.add (((ji3)).toNat * 2)) = some (.int .i32 ((rd_T54 l0 (ji3)).f0)) ∧ w'.cell? ⟨(ad230.add (((ji3)).toNat * 2)).block, (ad230.add (((ji3)).toNat * 2)).off + 1, none⟩ = some (.int .i64 ((rd_T54 l0 (ji3)).f1)) ∧ w'.cell? (ad230.add ((x3_1).toNat * 2)) = some (.int .i32 ((rd_T54 l0 x3_1).f0)) ∧ w'.cell? ⟨(ad230.add ((x3_1).toNat * 2)).block, (ad230.add ((x3_1).toNat * 2)).off + 1, none⟩ = some (.int .i64 ((rd_T54 l0 x3_1).f1))) (ds := []) #[false, false, false, false, false, false, false, false, false, false, false] (by kernel_rfl) rfl rfl ⟨(cu HB.out hw230_0), (cu HB.out hw230_1), (cu HB.out hw231_0), (cu HB.out hw231_1)⟩ (fun hHeld => ?_); refine with_tabW trivetref04_MayKeys.tab4 trivetref04_MayKeys.bits4 (fun HT_ HW_ => ?_)
        generalize wr.drew = w9 at HB hx230_0 hx230_1 hx231_0 hx231_1 hHeld ⊢
        refine pure_ (i := 0) (N := some 10) (v := ?_) (a' := ?_) #[true, false, false, false, false, false, false, false, false, false, false] rfl rfl (any_of HT_.out (by kernel_rfl)) (fun _ _ _ h => h) (Or.inl ⟨by rfl, ?_⟩) ?_ ?_
        rotate_left
        ·intro w'
         go_simp
         with_reducible rfl
        rotate_left
        ·simp only [Act.put, sq1, sq2, sq3, i64_w, i32_w]
         rfl
        refine pure_ (i := 1) (N := some 11) (v := ?_) (a' := ?_) #[true, true, false, false, false, false, false, false, false, false, false] rfl rfl (any_of HT_.out (by kernel_rfl)) (fun _ _ _ h => h) (Or.inl ⟨by rfl, ?_⟩) ?_ ?_
        rotate_left
        ·intro w'
         go_simp
         with_reducible rfl
        rotate_left
        ·simp only [Act.put, sq1, sq2, sq3, i64_w, i32_w]
         rfl
        refine pure_ (i := 2) (N := some 12) (v := ?_) (a' := ?_) #[true, true, true, false, false, false, false, false, false, false, false] rfl rfl (any_of HT_.out (by kernel_rfl)) (fun _ _ _ h => h) (Or.inl ⟨by rfl, ?_⟩) ?_ ?_
        rotate_left
        ·intro w'
         go_simp
         with_reducible rfl
        rotate_left
        ·simp only [Act.put, sq1, sq2, sq3, i64_w, i32_w]
         rfl
        refine pure_ (i := 3) (N := some 13) (v := ?_) (a' := ?_) #[true, true, true, true, false, false, false, false, false, false, false] rfl rfl (any_of HT_.out (by kernel_rfl)) (fun _ _ _ h => h) (Or.inl ⟨by rfl, ?_⟩) ?_ ?_
        rotate_left
        ·intro w'
         go_simp
         with_reducible rfl
        rotate_left
        ·simp only [Act.put, sq1, sq2, sq3, i64_w, i32_w]
         rfl
        refine pure_ (i := 5) (N := some 15) (v := ?_) (a' := ?_) #[true, true, true, true, false, true, false, false, false, false, false] rfl rfl (any_of HT_.out (by kernel_rfl)) (fun _ _ _ h => h) (Or.inl ⟨by rfl, ?_⟩) ?_ ?_
        rotate_left
        ·intro w'
         go_simp
         with_reducible rfl
        rotate_left
        ·simp only [Act.put, sq1, sq2, sq3, i64_w, i32_w]
         rfl
        refine pure_ (i := 6) (N := some 16) (v := ?_) (a' := ?_) #[true, true, true, true, false, true, true, false, false, false, false] rfl rfl (any_of HT_.out (by kernel_rfl)) (fun _ _ _ h => h) (Or.inl ⟨by rfl, ?_⟩) ?_ ?_
        rotate_left
        ·intro w'
         go_simp
         with_reducible rfl
        rotate_left
        ·simp only [Act.put, sq1, sq2, sq3, i64_w, i32_w]
         rfl
        refine pure_ (i := 7) (N := some 17) (v := ?_) (a' := ?_) #[true, true, true, true, false, true, true, true, false, false, false] rfl rfl (any_of HT_.out (by kernel_rfl)) (fun _ _ _ h => h) (Or.inl ⟨by rfl, ?_⟩) ?_ ?_
        rotate_left
        ·intro w'
         go_simp
         with_reducible rfl
        rotate_left
        ·simp only [Act.put, sq1, sq2, sq3, i64_w, i32_w]
         rfl
        refine take_ (i := 4) (N := some 14) (v := ?_) (a' := ?_) #[true, true, true, true, true, true, true, true, false, false, false] rfl rfl (take_ofW HT_.out HW_.out (by kernel_rfl)) (fun _ _ _ h => h) (Or.inl ⟨by rfl, ?_⟩) hHeld ?_ ?_
        rotate_left
        ·rintro w' ⟨s0, s1, s2, s3⟩
         go_simp
         with_reducible rfl
        rotate_left
        ·simp only [Act.put, sq1, sq2, sq3, i64_w, i32_w]
         rfl
        refine take_ (i := 8) (N := some 18) (v := ?_) (a' := ?_) #[true, true, true, true, true, true, true, true, true, false, false] rfl rfl (take_ofW HT_.out HW_.out (by kernel_rfl)) (fun _ _ _ h => h) (Or.inl ⟨by rfl, ?_⟩) hHeld ?_ ?_
        rotate_left
        ·rintro w' ⟨s0, s1, s2, s3⟩
         go_simp
         with_reducible rfl
        rotate_left
        ·simp only [Act.put, sq1, sq2, sq3, i64_w, i32_w]
         rfl
        refine one_ (i := 9) (N := some 19) #[true, true, true, true, true, true, true, true, true, true, false] rfl rfl (one_of HT_.out (by kernel_rfl)) (by decide) (fun K hK => ?_)
        refine goes_ Try.func77 (by kernel_rfl) rfl #[.agg #[.int .i32 ((rd_T54 l0 (ji3)).f0), .int .i64 ((rd_T54 l0 (ji3)).f1)], .agg #[.int .i32 ((rd_T54 l0 x3_1).f0), .int .i64 ((rd_T54 l0 x3_1).f1)]] (by rfl) rfl rfl (by (try simp only [List.map_toArray, List.map_cons, List.map_nil]); first | done | (simp only [hji3]; rfl) | rfl | (simp only [List.length_drop, List.length_take]; rfl)) ?_
        with_reducible refine (trivetref04_Less.calls ((rd_T54 l0 (ji3)).f0) ((rd_T54 l0 (ji3)).f1) ((rd_T54 l0 x3_1).f0) ((rd_T54 l0 x3_1).f1) true _ A7.out).mono ?_
        rintro e w10 ⟨rfl, hb⟩
        refine ⟨_, rfl, ?_⟩
        have n0_ := Aside0.mk (below_step (stB HB.out) hb)
        clear HB
        have HB := n0_
        clear n0_
        (try clear hb)
        (try clear hb2)
        (try clear hk)
        (try clear hi)
        refine hK.out _ _ ⟨(cu HB.out hw230_0), (cu HB.out hw230_1), (cu HB.out hw231_0), (cu HB.out hw231_1)⟩ (fun hHeld => ?_)
        clear hK K
        refine norm_ (a' := ?_) ?_ ?_
        rotate_left
        ·show Act.put _ (some 19) _ = _
         simp only [Act.put, sq1, sq2, sq3, i64_w, i32_w]
         rfl
        refine pure_ (i := 10) (N := some 20) (v := ?_) (a' := ?_) #[true, true, true, true, true, true, true, true, true, true, true] rfl rfl (any_of HT_.out (by kernel_rfl)) (fun _ _ _ h => h) (Or.inl ⟨by rfl, ?_⟩) ?_ ?_
        rotate_left
        ·intro w'
         go_simp
         with_reducible rfl
        rotate_left
        ·simp only [Act.put, sq1, sq2, sq3, i64_w, i32_w]
         rfl
        refine done_ (done_of HT_.out (by kernel_rfl)) ?_
        try go_wp2
        go_roundg k1
        case measure => have := HK1.out; omega
        case rel => exact ⟨(wrap64 (x3_1 + 1)), (by first | rfl | (simp; done) | (simp [*]; done)), H', ⟨by have := HK1.out; omega⟩, ⟨stB HB.out⟩⟩
       ·replace c8 := Bool.eq_false_iff.mpr c8
        subst c8
        have H1 : (some false) = some r := by rw [if_neg (show ¬ (false = true) by decide)] at H; exact H
        clear H
        have H := H1
        clear H1
        obtain rfl := Option.some.inj H
        try go_wp2
        have n0_ := Aside0.mk (below_drew1 HB.out)
        clear HB
        have HB := n0_
        clear n0_
        have p230 : 0 ≤ ((ji3) : Int) := of_decide_eq_true (by first | (with_reducible assumption) | assumption)
        have q230 : (ji3) < (l0.length : Int) := of_decide_eq_true (by first | (with_reducible assumption) | assumption)
        obtain ⟨ad230, e230, hx230_0, hx230_1⟩ := at_T54 HR0.out (ji3) p230 q230
        have hw230_1 := hx230_1
        have hw230_0 := hx230_0
        cases e230
        replace hx230_0 := cu HB.out hx230_0
        replace hx230_1 := cu HB.out hx230_1
        replace p230 := eq_true p230
        replace q230 := eq_true q230
        have p231 : 0 ≤ (x3_1 : Int) := of_decide_eq_true (by first | (with_reducible assumption) | assumption)
        have q231 : x3_1 < (l0.length : Int) := of_decide_eq_true (by first | (with_reducible assumption) | assumption)
        obtain ⟨ad231, e231, hx231_0, hx231_1⟩ := at_T54 HR0.out x3_1 p231 q231
        have hw231_1 := hx231_1
        have hw231_0 := hx231_0
        obtain rfl : ad230 = ad231 := (by injection e231)
        replace hx231_0 := cu HB.out hx231_0
        replace hx231_1 := cu HB.out hx231_1
        replace p231 := eq_true p231
        replace q231 := eq_true q231
        refine start_ (n := 11) (S := fun w' => w'.cell? (ad230.add (((ji3)).toNat * 2)) = some (.int .i32 ((rd_T54 l0 (ji3)).f0)) ∧ w'.cell? ⟨(ad230.add (((ji3)).toNat * 2)).block, (ad230.add (((ji3)).toNat * 2)).off + 1, none⟩ = some (.int .i64 ((rd_T54 l0 (ji3)).f1)) ∧ w'.cell? (ad230.add ((x3_1).toNat * 2)) = some (.int .i32 ((rd_T54 l0 x3_1).f0)) ∧ w'.cell? ⟨(ad230.add ((x3_1).toNat * 2)).block, (ad230.add ((x3_1).toNat * 2)).off + 1, none⟩ = some (.int .i64 ((rd_T54 l0 x3_1).f1))) (ds := []) #[false, false, false, false, false, false, false, false, false, false, false] (by kernel_rfl) rfl rfl ⟨(cu HB.out hw230_0), (cu HB.out hw230_1), (cu HB.out hw231_0), (cu HB.out hw231_1)⟩ (fun hHeld => ?_); refine with_tabW trivetref04_MayKeys.tab4 trivetref04_MayKeys.bits4 (fun HT_ HW_ => ?_)
        generalize wr.drew = w11 at HB hx230_0 hx230_1 hx231_0 hx231_1 hHeld ⊢
        refine pure_ (i := 0) (N := some 10) (v := ?_) (a' := ?_) #[true, false, false, false, false, false, false, false, false, false, false] rfl rfl (any_of HT_.out (by kernel_rfl)) (fun _ _ _ h => h) (Or.inl ⟨by rfl, ?_⟩) ?_ ?_
        rotate_left
        ·intro w'
         go_simp
         with_reducible rfl
        rotate_left
        ·simp only [Act.put, sq1, sq2, sq3, i64_w, i32_w]
         rfl
        refine pure_ (i := 1) (N := some 11) (v := ?_) (a' := ?_) #[true, true, false, false, false, false, false, false, false, false, false] rfl rfl (any_of HT_.out (by kernel_rfl)) (fun _ _ _ h => h) (Or.inl ⟨by rfl, ?_⟩) ?_ ?_
        rotate_left
        ·intro w'
         go_simp
         with_reducible rfl
        rotate_left
        ·simp only [Act.put, sq1, sq2, sq3, i64_w, i32_w]
         rfl
        refine pure_ (i := 2) (N := some 12) (v := ?_) (a' := ?_) #[true, true, true, false, false, false, false, false, false, false, false] rfl rfl (any_of HT_.out (by kernel_rfl)) (fun _ _ _ h => h) (Or.inl ⟨by rfl, ?_⟩) ?_ ?_
        rotate_left
        ·intro w'
         go_simp
         with_reducible rfl
        rotate_left
        ·simp only [Act.put, sq1, sq2, sq3, i64_w, i32_w]
         rfl
        refine pure_ (i := 3) (N := some 13) (v := ?_) (a' := ?_) #[true, true, true, true, false, false, false, false, false, false, false] rfl rfl (any_of HT_.out (by kernel_rfl)) (fun _ _ _ h => h) (Or.inl ⟨by rfl, ?_⟩) ?_ ?_
        rotate_left
        ·intro w'
         go_simp
         with_reducible rfl
        rotate_left
        ·simp only [Act.put, sq1, sq2, sq3, i64_w, i32_w]
         rfl
        refine pure_ (i := 5) (N := some 15) (v := ?_) (a' := ?_) #[true, true, true, true, false, true, false, false, false, false, false] rfl rfl (any_of HT_.out (by kernel_rfl)) (fun _ _ _ h => h) (Or.inl ⟨by rfl, ?_⟩) ?_ ?_
        rotate_left
        ·intro w'
         go_simp
         with_reducible rfl
        rotate_left
        ·simp only [Act.put, sq1, sq2, sq3, i64_w, i32_w]
         rfl
        refine pure_ (i := 6) (N := some 16) (v := ?_) (a' := ?_) #[true, true, true, true, false, true, true, false, false, false, false] rfl rfl (any_of HT_.out (by kernel_rfl)) (fun _ _ _ h => h) (Or.inl ⟨by rfl, ?_⟩) ?_ ?_
        rotate_left
        ·intro w'
         go_simp
         with_reducible rfl
        rotate_left
        ·simp only [Act.put, sq1, sq2, sq3, i64_w, i32_w]
         rfl
        refine pure_ (i := 7) (N := some 17) (v := ?_) (a' := ?_) #[true, true, true, true, false, true, true, true, false, false, false] rfl rfl (any_of HT_.out (by kernel_rfl)) (fun _ _ _ h => h) (Or.inl ⟨by rfl, ?_⟩) ?_ ?_
        rotate_left
        ·intro w'
         go_simp
         with_reducible rfl
        rotate_left
        ·simp only [Act.put, sq1, sq2, sq3, i64_w, i32_w]
         rfl
        refine take_ (i := 4) (N := some 14) (v := ?_) (a' := ?_) #[true, true, true, true, true, true, true, true, false, false, false] rfl rfl (take_ofW HT_.out HW_.out (by kernel_rfl)) (fun _ _ _ h => h) (Or.inl ⟨by rfl, ?_⟩) hHeld ?_ ?_
        rotate_left
        ·rintro w' ⟨s0, s1, s2, s3⟩
         go_simp
         with_reducible rfl
        rotate_left
        ·simp only [Act.put, sq1, sq2, sq3, i64_w, i32_w]
         rfl
        refine take_ (i := 8) (N := some 18) (v := ?_) (a' := ?_) #[true, true, true, true, true, true, true, true, true, false, false] rfl rfl (take_ofW HT_.out HW_.out (by kernel_rfl)) (fun _ _ _ h => h) (Or.inl ⟨by rfl, ?_⟩) hHeld ?_ ?_
        rotate_left
        ·rintro w' ⟨s0, s1, s2, s3⟩
         go_simp
         with_reducible rfl
        rotate_left
        ·simp only [Act.put, sq1, sq2, sq3, i64_w, i32_w]
         rfl
        refine one_ (i := 9) (N := some 19) #[true, true, true, true, true, true, true, true, true, true, false] rfl rfl (one_of HT_.out (by kernel_rfl)) (by decide) (fun K hK => ?_)
        refine goes_ Try.func77 (by kernel_rfl) rfl #[.agg #[.int .i32 ((rd_T54 l0 (ji3)).f0), .int .i64 ((rd_T54 l0 (ji3)).f1)], .agg #[.int .i32 ((rd_T54 l0 x3_1).f0), .int .i64 ((rd_T54 l0 x3_1).f1)]] (by rfl) rfl rfl (by (try simp only [List.map_toArray, List.map_cons, List.map_nil]); first | done | (simp only [hji3]; rfl) | rfl | (simp only [List.length_drop, List.length_take]; rfl)) ?_
        with_reducible refine (trivetref04_Less.calls ((rd_T54 l0 (ji3)).f0) ((rd_T54 l0 (ji3)).f1) ((rd_T54 l0 x3_1).f0) ((rd_T54 l0 x3_1).f1) false _ A7.out).mono ?_
        rintro e w12 ⟨rfl, hb⟩
        refine ⟨_, rfl, ?_⟩
        have n0_ := Aside0.mk (below_step (stB HB.out) hb)
        clear HB
        have HB := n0_
        clear n0_
        (try clear hb)
        (try clear hb2)
        (try clear hk)
        (try clear hi)
        refine hK.out _ _ ⟨(cu HB.out hw230_0), (cu HB.out hw230_1), (cu HB.out hw231_0), (cu HB.out hw231_1)⟩ (fun hHeld => ?_)
        clear hK K
        refine norm_ (a' := ?_) ?_ ?_
        rotate_left
        ·show Act.put _ (some 19) _ = _
         simp only [Act.put, sq1, sq2, sq3, i64_w, i32_w]
         rfl
        refine pure_ (i := 10) (N := some 20) (v := ?_) (a' := ?_) #[true, true, true, true, true, true, true, true, true, true, true] rfl rfl (any_of HT_.out (by kernel_rfl)) (fun _ _ _ h => h) (Or.inl ⟨by rfl, ?_⟩) ?_ ?_
        rotate_left
        ·intro w'
         go_simp
         with_reducible rfl
        rotate_left
        ·simp only [Act.put, sq1, sq2, sq3, i64_w, i32_w]
         rfl
        refine done_ (done_of HT_.out (by kernel_rfl)) ?_
        try go_wp2
        go_ret
        exact ⟨by first | rfl | (simp [errW_none, errW_some] <;> rfl) | (simp only [← hji3]; first | rfl | (simp [errW_none, errW_some] <;> rfl)) | (simp [*, errW_none, errW_some] <;> rfl), stB HB.out⟩
      ·rw [if_neg c6] at H
       exact absurd H (by simp)
     ·rw [if_neg c5] at H
      exact absurd H (by simp)
    ·rw [if_neg c4] at H
     exact absurd H (by simp)
   ·rw [if_neg c2] at H
    have c2b0 : decide (x3_1 < (l0.length : Int)) = false := decide_eq_false c2
    clear c2
    obtain rfl := Option.some.inj H
    go_wp2
    go_ret
    exact ⟨by first | rfl | (simp [errW_none, errW_some] <;> rfl) | (simp [*, errW_none, errW_some] <;> rfl), stB HB.out⟩
def trivetref04_MayTxn.f (k : Nat) (a0_0 : Int) (a0_1 : Int) (l0_2 : List Int) (l0_3 : List Int) (l0_4 : List (S54)) (l0_5 : List (S54)) : Option (Bool) := (trivetref04_count.f a0_0).bind fun t234 => (if t234 = true then (if a0_0 > 0 then ((trivetref04_count.f a0_1).bind fun t235 => (if t235 = true then (if a0_1 > 0 then (if (l0_2.length : Int) ≤ 512 then (if (l0_3.length : Int) ≤ 8 then ((trivetref04_MayKeys.f k l0_4).bind fun t236 => (if t236 = true then ((trivetref04_MayKeys.f k l0_5).bind fun t237 => (some t237)) else (some false))) else (some false)) else (some false)) else (some false)) else (some false))) else (some false)) else (some false))
set_option maxHeartbeats 8000000 in
set_option maxRecDepth 100000 in
theorem trivetref04_MayTxn.calls (k : Nat) (a0_0 : Int) (a0_1 : Int) (A0_2 : Option Addr) (c0_2 : Nat) (l0_2 : List Int) (A0_3 : Option Addr) (c0_3 : Nat) (l0_3 : List Int) (A0_4 : Option Addr) (c0_4 : Nat) (l0_4 : List (S54)) (A0_5 : Option Addr) (c0_5 : Nat) (l0_5 : List (S54)) (r : Bool) (w : World) (hr0_2 : Kd.C (Kd.int .u8) w A0_2 l0_2.length l0_2) (hc0_2 : l0_2.length ≤ c0_2) (hr0_3 : Kd.C (Kd.int .i64) w A0_3 l0_3.length l0_3) (hc0_3 : l0_3.length ≤ c0_3) (hr0_4 : Kd.C k54 w A0_4 l0_4.length l0_4) (hc0_4 : l0_4.length ≤ c0_4) (hr0_5 : Kd.C k54 w A0_5 l0_5.length l0_5) (hc0_5 : l0_5.length ≤ c0_5) (h : trivetref04_MayTxn.f k a0_0 a0_1 l0_2 l0_3 l0_4 l0_5 = some r) :
  Calls Try.prog 48 #[.agg #[.int .i64 a0_0, .int .i64 a0_1, .slice A0_2 l0_2.length c0_2, .slice A0_3 l0_3.length c0_3, .slice A0_4 l0_4.length c0_4, .slice A0_5 l0_5.length c0_5]] w fun e w' => e = .returned (.bool r) ∧ Below w.heap.size w w' := by
 have hu32 := Try.underlying32
 have HR0_2 := Aside0.mk hr0_2
 have HC0_2 := Aside0.mk hc0_2
 clear hr0_2 hc0_2
 have HR0_3 := Aside0.mk hr0_3
 have HC0_3 := Aside0.mk hc0_3
 clear hr0_3 hc0_3
 have HR0_4 := Aside0.mk hr0_4
 have HC0_4 := Aside0.mk hc0_4
 clear hr0_4 hc0_4
 have HR0_5 := Aside0.mk hr0_5
 have HC0_5 := Aside0.mk hc0_5
 clear hr0_5 hc0_5
 have HB := Aside0.mk (Below.refl w.heap.size w)
 have H : ((trivetref04_count.f a0_0).bind fun t234 => (if t234 = true then (if a0_0 > 0 then ((trivetref04_count.f a0_1).bind fun t235 => (if t235 = true then (if a0_1 > 0 then (if (l0_2.length : Int) ≤ 512 then (if (l0_3.length : Int) ≤ 8 then ((trivetref04_MayKeys.f k l0_4).bind fun t236 => (if t236 = true then ((trivetref04_MayKeys.f k l0_5).bind fun t237 => (some t237)) else (some false))) else (some false)) else (some false)) else (some false)) else (some false))) else (some false)) else (some false))) = some r := h
 clear h
 replace H := Option.bind_eq_some_iff.mp H
 obtain ⟨t234, A20, H⟩ := H
 replace H : (if t234 = true then (if a0_0 > 0 then ((trivetref04_count.f a0_1).bind fun t235 => (if t235 = true then (if a0_1 > 0 then (if (l0_2.length : Int) ≤ 512 then (if (l0_3.length : Int) ≤ 8 then ((trivetref04_MayKeys.f k l0_4).bind fun t236 => (if t236 = true then ((trivetref04_MayKeys.f k l0_5).bind fun t237 => (some t237)) else (some false))) else (some false)) else (some false)) else (some false)) else (some false))) else (some false)) else (some false)) = some r := H
 have A2 := Aside0.mk A20
 clear A20
 by_cases c3 : t234 = true
 ·subst c3
  have H1 : (if a0_0 > 0 then ((trivetref04_count.f a0_1).bind fun t235 => (if t235 = true then (if a0_1 > 0 then (if (l0_2.length : Int) ≤ 512 then (if (l0_3.length : Int) ≤ 8 then ((trivetref04_MayKeys.f k l0_4).bind fun t236 => (if t236 = true then ((trivetref04_MayKeys.f k l0_5).bind fun t237 => (some t237)) else (some false))) else (some false)) else (some false)) else (some false)) else (some false))) else (some false)) = some r := by rw [if_pos rfl] at H; exact H
  clear H
  have H := H1
  clear H1
  by_cases c4 : a0_0 > 0
  ·rw [if_pos c4] at H
   have c4b0 : decide (0 < a0_0) = true := decide_eq_true c4
   clear c4
   replace H := Option.bind_eq_some_iff.mp H
   obtain ⟨t235, A50, H⟩ := H
   replace H : (if t235 = true then (if a0_1 > 0 then (if (l0_2.length : Int) ≤ 512 then (if (l0_3.length : Int) ≤ 8 then ((trivetref04_MayKeys.f k l0_4).bind fun t236 => (if t236 = true then ((trivetref04_MayKeys.f k l0_5).bind fun t237 => (some t237)) else (some false))) else (some false)) else (some false)) else (some false)) else (some false)) = some r := H
   have A5 := Aside0.mk A50
   clear A50
   by_cases c6 : t235 = true
   ·subst c6
    have H1 : (if a0_1 > 0 then (if (l0_2.length : Int) ≤ 512 then (if (l0_3.length : Int) ≤ 8 then ((trivetref04_MayKeys.f k l0_4).bind fun t236 => (if t236 = true then ((trivetref04_MayKeys.f k l0_5).bind fun t237 => (some t237)) else (some false))) else (some false)) else (some false)) else (some false)) = some r := by rw [if_pos rfl] at H; exact H
    clear H
    have H := H1
    clear H1
    by_cases c7 : a0_1 > 0
    ·rw [if_pos c7] at H
     have c7b0 : decide (0 < a0_1) = true := decide_eq_true c7
     clear c7
     by_cases c8 : (l0_2.length : Int) ≤ 512
     ·rw [if_pos c8] at H
      have c8b0 : decide ((l0_2.length : Int) ≤ 512) = true := decide_eq_true c8
      have c8b1 : decide (l0_2.length ≤ 512) = true := decide_eq_true (by omega)
      clear c8
      by_cases c9 : (l0_3.length : Int) ≤ 8
      ·rw [if_pos c9] at H
       have c9b0 : decide ((l0_3.length : Int) ≤ 8) = true := decide_eq_true c9
       have c9b1 : decide (l0_3.length ≤ 8) = true := decide_eq_true (by omega)
       clear c9
       replace H := Option.bind_eq_some_iff.mp H
       obtain ⟨t236, A100, H⟩ := H
       replace H : (if t236 = true then ((trivetref04_MayKeys.f k l0_5).bind fun t237 => (some t237)) else (some false)) = some r := H
       have A10 := Aside0.mk A100
       clear A100
       by_cases c11 : t236 = true
       ·subst c11
        have H1 : ((trivetref04_MayKeys.f k l0_5).bind fun t237 => (some t237)) = some r := by rw [if_pos rfl] at H; exact H
        clear H
        have H := H1
        clear H1
        replace H := Option.bind_eq_some_iff.mp H
        obtain ⟨t237, A120, H⟩ := H
        replace H : (some t237) = some r := H
        have A12 := Aside0.mk A120
        clear A120
        obtain rfl := Option.some.inj H
        go_enter Try.func48, Try.ntmps48
        go_wp2_with (first | ((with_reducible refine gate_dst (N := 1) rfl ?_); (try (refine gate_guard (by rfl) ?_; dsimp only)); refine box_event ?hg (N := 1) ?hd (cs := #[.int .i64 a0_0, .int .i64 a0_1, .slice A0_2 l0_2.length c0_2, .slice A0_3 l0_3.length c0_3, .slice A0_4 l0_4.length c0_4, .slice A0_5 l0_5.length c0_5]) (t := 32) ?hr ?_; (case hd => rfl); (case hg => rfl); (case hr => first | (go_simp; done) | (go_simp; rfl)); intro gb233 hg w13 hbox hb; have n0_ := Aside0.mk (below_step (stB HB.out) hb); have n1_ := Aside0.mk (hbox); have n2_ := Aside0.mk ((by rw [hg]; exact (below_size (stB HB.out)) : w.heap.size ≤ gb233)); have n3_ := Aside0.mk ((by rw [hg]; exact (below_size (stB HB.out)) : w.heap.size ≤ gb233)); clear HB; have HB := n0_; have BK233 := n1_; have GW233 := n2_; have GE233 := n3_; clear n0_ n1_ n2_ n3_; clear hb hbox hg; obtain ⟨hcz14_0, hcz14_1, hcz14_2, hcz14_3, hcz14_4, hcz14_5⟩ := bc6 BK233.out; obtain ⟨hfz14_0, hfz14_1, hfz14_2, hfz14_3, hfz14_4, hfz14_5⟩ := bf6 BK233.out) | ((with_reducible refine gate_callee (f := 50) rfl ?_); refine goesL_ (some 5) rfl rfl Try.func50 (by kernel_rfl) rfl #[.int .i64 a0_0] rfl (by (try simp only [List.map_toArray, List.map_cons, List.map_nil]); first | done | rfl | (simp only [List.length_drop, List.length_take]; rfl)) ?_; (with_reducible refine (trivetref04_count.calls a0_0 true _ A2.out).mono ?_); rintro e w' ⟨rfl, ⟨nd, rfl⟩⟩; refine ⟨_, rfl, ?_⟩) | (go_at_call 50; (with_reducible refine (trivetref04_count.calls a0_1 true _ A5.out).mono ?_); rintro e w' ⟨rfl, ⟨nd, rfl⟩⟩) | (go_at_call 65; (with_reducible refine (trivetref04_MayKeys.calls k _ _ l0_4 true _ ?side1 ?side2 A10.out).mono ?_); (case side1 => repeat (first | exact (Kd.C_below HR0_4.out (by repeat (first | (with_reducible first | exact HB.out | apply below_alloc | apply pw_below_drewN | apply below_drew1 | refine below_set ?_ GE233.out) | exact HB.out))) | (with_reducible refine Kd.C_alloc ?_ _) | (with_reducible refine Kd.C_drewN ?_ _) | (with_reducible refine Kd.C_drew ?_))); (case side2 => exact HC0_4.out); rintro e w15 ⟨rfl, hb⟩; have n0_ := Aside0.mk (blk_below (g := gb233) (o := .cells #[.int .i64 a0_0, .int .i64 a0_1, .slice A0_2 l0_2.length c0_2, .slice A0_3 l0_3.length c0_3, .slice A0_4 l0_4.length c0_4, .slice A0_5 l0_5.length c0_5] 32 (0, 0)) (stK BK233.out) hb); have n1_ := Aside0.mk (below_step (by repeat (first | (with_reducible first | exact HB.out | apply below_alloc | apply pw_below_drewN | apply below_drew1 | refine below_set ?_ GE233.out) | exact HB.out)) hb); clear BK233; clear HB; have BK233 := n0_; have HB := n1_; clear n0_ n1_; (try clear hb); (try clear hb2); (try clear hk); (try clear hi); obtain ⟨hcz16_0, hcz16_1, hcz16_2, hcz16_3, hcz16_4, hcz16_5⟩ := bc6 BK233.out; obtain ⟨hfz16_0, hfz16_1, hfz16_2, hfz16_3, hfz16_4, hfz16_5⟩ := bf6 BK233.out) | (go_at_call 65; (with_reducible refine (trivetref04_MayKeys.calls k _ _ l0_5 t237 _ ?side1 ?side2 A12.out).mono ?_); (case side1 => exact stC (Kd.C_below HR0_5.out HB.out)); (case side2 => exact HC0_5.out); rintro e w17 ⟨rfl, hb⟩; have n0_ := Aside0.mk (blk_below (g := gb233) (o := .cells #[.int .i64 a0_0, .int .i64 a0_1, .slice A0_2 l0_2.length c0_2, .slice A0_3 l0_3.length c0_3, .slice A0_4 l0_4.length c0_4, .slice A0_5 l0_5.length c0_5] 32 (0, 0)) (stK BK233.out) hb); have n1_ := Aside0.mk (below_step (by repeat (first | (with_reducible first | exact HB.out | apply below_alloc | apply pw_below_drewN | apply below_drew1 | refine below_set ?_ GE233.out) | exact HB.out)) hb); clear BK233; clear HB; have BK233 := n0_; have HB := n1_; clear n0_ n1_; (try clear hb); (try clear hb2); (try clear hk); (try clear hi)))
        go_ret
        exact ⟨by first | rfl | (simp [errW_none, errW_some] <;> rfl) | (simp [*, errW_none, errW_some] <;> rfl), by repeat (first | (with_reducible first | exact HB.out | apply below_alloc | apply pw_below_drewN | apply below_drew1 | refine below_set ?_ GE233.out) | exact HB.out)⟩
       ·replace c11 := Bool.eq_false_iff.mpr c11
        subst c11
        have H1 : (some false) = some r := by rw [if_neg (show ¬ (false = true) by decide)] at H; exact H
        clear H
        have H := H1
        clear H1
        obtain rfl := Option.some.inj H
        go_enter Try.func48, Try.ntmps48
        go_wp2_with (first | ((with_reducible refine gate_dst (N := 1) rfl ?_); (try (refine gate_guard (by rfl) ?_; dsimp only)); refine box_event ?hg (N := 1) ?hd (cs := #[.int .i64 a0_0, .int .i64 a0_1, .slice A0_2 l0_2.length c0_2, .slice A0_3 l0_3.length c0_3, .slice A0_4 l0_4.length c0_4, .slice A0_5 l0_5.length c0_5]) (t := 32) ?hr ?_; (case hd => rfl); (case hg => rfl); (case hr => first | (go_simp; done) | (go_simp; rfl)); intro gb233 hg w18 hbox hb; have n0_ := Aside0.mk (below_step (stB HB.out) hb); have n1_ := Aside0.mk (hbox); have n2_ := Aside0.mk ((by rw [hg]; exact (below_size (stB HB.out)) : w.heap.size ≤ gb233)); have n3_ := Aside0.mk ((by rw [hg]; exact (below_size (stB HB.out)) : w.heap.size ≤ gb233)); clear HB; have HB := n0_; have BK233 := n1_; have GW233 := n2_; have GE233 := n3_; clear n0_ n1_ n2_ n3_; clear hb hbox hg; obtain ⟨hcz19_0, hcz19_1, hcz19_2, hcz19_3, hcz19_4, hcz19_5⟩ := bc6 BK233.out; obtain ⟨hfz19_0, hfz19_1, hfz19_2, hfz19_3, hfz19_4, hfz19_5⟩ := bf6 BK233.out) | ((with_reducible refine gate_callee (f := 50) rfl ?_); refine goesL_ (some 5) rfl rfl Try.func50 (by kernel_rfl) rfl #[.int .i64 a0_0] rfl (by (try simp only [List.map_toArray, List.map_cons, List.map_nil]); first | done | rfl | (simp only [List.length_drop, List.length_take]; rfl)) ?_; (with_reducible refine (trivetref04_count.calls a0_0 true _ A2.out).mono ?_); rintro e w' ⟨rfl, ⟨nd, rfl⟩⟩; refine ⟨_, rfl, ?_⟩) | (go_at_call 50; (with_reducible refine (trivetref04_count.calls a0_1 true _ A5.out).mono ?_); rintro e w' ⟨rfl, ⟨nd, rfl⟩⟩) | (go_at_call 65; (with_reducible refine (trivetref04_MayKeys.calls k _ _ l0_4 false _ ?side1 ?side2 A10.out).mono ?_); (case side1 => repeat (first | exact (Kd.C_below HR0_4.out (by repeat (first | (with_reducible first | exact HB.out | apply below_alloc | apply pw_below_drewN | apply below_drew1 | refine below_set ?_ GE233.out) | exact HB.out))) | (with_reducible refine Kd.C_alloc ?_ _) | (with_reducible refine Kd.C_drewN ?_ _) | (with_reducible refine Kd.C_drew ?_))); (case side2 => exact HC0_4.out); rintro e w20 ⟨rfl, hb⟩; have n0_ := Aside0.mk (blk_below (g := gb233) (o := .cells #[.int .i64 a0_0, .int .i64 a0_1, .slice A0_2 l0_2.length c0_2, .slice A0_3 l0_3.length c0_3, .slice A0_4 l0_4.length c0_4, .slice A0_5 l0_5.length c0_5] 32 (0, 0)) (stK BK233.out) hb); have n1_ := Aside0.mk (below_step (by repeat (first | (with_reducible first | exact HB.out | apply below_alloc | apply pw_below_drewN | apply below_drew1 | refine below_set ?_ GE233.out) | exact HB.out)) hb); clear BK233; clear HB; have BK233 := n0_; have HB := n1_; clear n0_ n1_; (try clear hb); (try clear hb2); (try clear hk); (try clear hi)))
        go_ret
        exact ⟨by first | rfl | (simp [errW_none, errW_some] <;> rfl) | (simp [*, errW_none, errW_some] <;> rfl), by repeat (first | (with_reducible first | exact HB.out | apply below_alloc | apply pw_below_drewN | apply below_drew1 | refine below_set ?_ GE233.out) | exact HB.out)⟩
      ·rw [if_neg c9] at H
       have c9b0 : decide ((l0_3.length : Int) ≤ 8) = false := decide_eq_false c9
       have c9b1 : decide (l0_3.length ≤ 8) = false := decide_eq_false (by omega)
       clear c9
       obtain rfl := Option.some.inj H
       go_enter Try.func48, Try.ntmps48
       go_wp2_with (first | ((with_reducible refine gate_dst (N := 1) rfl ?_); (try (refine gate_guard (by rfl) ?_; dsimp only)); refine box_event ?hg (N := 1) ?hd (cs := #[.int .i64 a0_0, .int .i64 a0_1, .slice A0_2 l0_2.length c0_2, .slice A0_3 l0_3.length c0_3, .slice A0_4 l0_4.length c0_4, .slice A0_5 l0_5.length c0_5]) (t := 32) ?hr ?_; (case hd => rfl); (case hg => rfl); (case hr => first | (go_simp; done) | (go_simp; rfl)); intro gb233 hg w21 hbox hb; have n0_ := Aside0.mk (below_step (stB HB.out) hb); have n1_ := Aside0.mk (hbox); have n2_ := Aside0.mk ((by rw [hg]; exact (below_size (stB HB.out)) : w.heap.size ≤ gb233)); have n3_ := Aside0.mk ((by rw [hg]; exact (below_size (stB HB.out)) : w.heap.size ≤ gb233)); clear HB; have HB := n0_; have BK233 := n1_; have GW233 := n2_; have GE233 := n3_; clear n0_ n1_ n2_ n3_; clear hb hbox hg; obtain ⟨hcz22_0, hcz22_1, hcz22_2, hcz22_3, hcz22_4, hcz22_5⟩ := bc6 BK233.out; obtain ⟨hfz22_0, hfz22_1, hfz22_2, hfz22_3, hfz22_4, hfz22_5⟩ := bf6 BK233.out) | ((with_reducible refine gate_callee (f := 50) rfl ?_); refine goesL_ (some 5) rfl rfl Try.func50 (by kernel_rfl) rfl #[.int .i64 a0_0] rfl (by (try simp only [List.map_toArray, List.map_cons, List.map_nil]); first | done | rfl | (simp only [List.length_drop, List.length_take]; rfl)) ?_; (with_reducible refine (trivetref04_count.calls a0_0 true _ A2.out).mono ?_); rintro e w' ⟨rfl, ⟨nd, rfl⟩⟩; refine ⟨_, rfl, ?_⟩) | (go_at_call 50; (with_reducible refine (trivetref04_count.calls a0_1 true _ A5.out).mono ?_); rintro e w' ⟨rfl, ⟨nd, rfl⟩⟩))
       go_ret
       exact ⟨by first | rfl | (simp [errW_none, errW_some] <;> rfl) | (simp [*, errW_none, errW_some] <;> rfl), by repeat (first | (with_reducible first | exact HB.out | apply below_alloc | apply pw_below_drewN | apply below_drew1 | refine below_set ?_ GE233.out) | exact HB.out)⟩
     ·rw [if_neg c8] at H
      have c8b0 : decide ((l0_2.length : Int) ≤ 512) = false := decide_eq_false c8
      have c8b1 : decide (l0_2.length ≤ 512) = false := decide_eq_false (by omega)
      clear c8
      obtain rfl := Option.some.inj H
      go_enter Try.func48, Try.ntmps48
      go_wp2_with (first | ((with_reducible refine gate_dst (N := 1) rfl ?_); (try (refine gate_guard (by rfl) ?_; dsimp only)); refine box_event ?hg (N := 1) ?hd (cs := #[.int .i64 a0_0, .int .i64 a0_1, .slice A0_2 l0_2.length c0_2, .slice A0_3 l0_3.length c0_3, .slice A0_4 l0_4.length c0_4, .slice A0_5 l0_5.length c0_5]) (t := 32) ?hr ?_; (case hd => rfl); (case hg => rfl); (case hr => first | (go_simp; done) | (go_simp; rfl)); intro gb233 hg w23 hbox hb; have n0_ := Aside0.mk (below_step (stB HB.out) hb); have n1_ := Aside0.mk (hbox); have n2_ := Aside0.mk ((by rw [hg]; exact (below_size (stB HB.out)) : w.heap.size ≤ gb233)); have n3_ := Aside0.mk ((by rw [hg]; exact (below_size (stB HB.out)) : w.heap.size ≤ gb233)); clear HB; have HB := n0_; have BK233 := n1_; have GW233 := n2_; have GE233 := n3_; clear n0_ n1_ n2_ n3_; clear hb hbox hg; obtain ⟨hcz24_0, hcz24_1, hcz24_2, hcz24_3, hcz24_4, hcz24_5⟩ := bc6 BK233.out; obtain ⟨hfz24_0, hfz24_1, hfz24_2, hfz24_3, hfz24_4, hfz24_5⟩ := bf6 BK233.out) | ((with_reducible refine gate_callee (f := 50) rfl ?_); refine goesL_ (some 5) rfl rfl Try.func50 (by kernel_rfl) rfl #[.int .i64 a0_0] rfl (by (try simp only [List.map_toArray, List.map_cons, List.map_nil]); first | done | rfl | (simp only [List.length_drop, List.length_take]; rfl)) ?_; (with_reducible refine (trivetref04_count.calls a0_0 true _ A2.out).mono ?_); rintro e w' ⟨rfl, ⟨nd, rfl⟩⟩; refine ⟨_, rfl, ?_⟩) | (go_at_call 50; (with_reducible refine (trivetref04_count.calls a0_1 true _ A5.out).mono ?_); rintro e w' ⟨rfl, ⟨nd, rfl⟩⟩))
      go_ret
      exact ⟨by first | rfl | (simp [errW_none, errW_some] <;> rfl) | (simp [*, errW_none, errW_some] <;> rfl), by repeat (first | (with_reducible first | exact HB.out | apply below_alloc | apply pw_below_drewN | apply below_drew1 | refine below_set ?_ GE233.out) | exact HB.out)⟩
    ·rw [if_neg c7] at H
     have c7b0 : decide (0 < a0_1) = false := decide_eq_false c7
     clear c7
     obtain rfl := Option.some.inj H
     go_enter Try.func48, Try.ntmps48
     go_wp2_with (first | ((with_reducible refine gate_dst (N := 1) rfl ?_); (try (refine gate_guard (by rfl) ?_; dsimp only)); refine box_event ?hg (N := 1) ?hd (cs := #[.int .i64 a0_0, .int .i64 a0_1, .slice A0_2 l0_2.length c0_2, .slice A0_3 l0_3.length c0_3, .slice A0_4 l0_4.length c0_4, .slice A0_5 l0_5.length c0_5]) (t := 32) ?hr ?_; (case hd => rfl); (case hg => rfl); (case hr => first | (go_simp; done) | (go_simp; rfl)); intro gb233 hg w25 hbox hb; have n0_ := Aside0.mk (below_step (stB HB.out) hb); have n1_ := Aside0.mk (hbox); have n2_ := Aside0.mk ((by rw [hg]; exact (below_size (stB HB.out)) : w.heap.size ≤ gb233)); have n3_ := Aside0.mk ((by rw [hg]; exact (below_size (stB HB.out)) : w.heap.size ≤ gb233)); clear HB; have HB := n0_; have BK233 := n1_; have GW233 := n2_; have GE233 := n3_; clear n0_ n1_ n2_ n3_; clear hb hbox hg; obtain ⟨hcz26_0, hcz26_1, hcz26_2, hcz26_3, hcz26_4, hcz26_5⟩ := bc6 BK233.out; obtain ⟨hfz26_0, hfz26_1, hfz26_2, hfz26_3, hfz26_4, hfz26_5⟩ := bf6 BK233.out) | ((with_reducible refine gate_callee (f := 50) rfl ?_); refine goesL_ (some 5) rfl rfl Try.func50 (by kernel_rfl) rfl #[.int .i64 a0_0] rfl (by (try simp only [List.map_toArray, List.map_cons, List.map_nil]); first | done | rfl | (simp only [List.length_drop, List.length_take]; rfl)) ?_; (with_reducible refine (trivetref04_count.calls a0_0 true _ A2.out).mono ?_); rintro e w' ⟨rfl, ⟨nd, rfl⟩⟩; refine ⟨_, rfl, ?_⟩) | (go_at_call 50; (with_reducible refine (trivetref04_count.calls a0_1 true _ A5.out).mono ?_); rintro e w' ⟨rfl, ⟨nd, rfl⟩⟩))
     go_ret
     exact ⟨by first | rfl | (simp [errW_none, errW_some] <;> rfl) | (simp [*, errW_none, errW_some] <;> rfl), by repeat (first | (with_reducible first | exact HB.out | apply below_alloc | apply pw_below_drewN | apply below_drew1 | refine below_set ?_ GE233.out) | exact HB.out)⟩
   ·replace c6 := Bool.eq_false_iff.mpr c6
    subst c6
    have H1 : (some false) = some r := by rw [if_neg (show ¬ (false = true) by decide)] at H; exact H
    clear H
    have H := H1
    clear H1
    obtain rfl := Option.some.inj H
    go_enter Try.func48, Try.ntmps48
    go_wp2_with (first | ((with_reducible refine gate_dst (N := 1) rfl ?_); (try (refine gate_guard (by rfl) ?_; dsimp only)); refine box_event ?hg (N := 1) ?hd (cs := #[.int .i64 a0_0, .int .i64 a0_1, .slice A0_2 l0_2.length c0_2, .slice A0_3 l0_3.length c0_3, .slice A0_4 l0_4.length c0_4, .slice A0_5 l0_5.length c0_5]) (t := 32) ?hr ?_; (case hd => rfl); (case hg => rfl); (case hr => first | (go_simp; done) | (go_simp; rfl)); intro gb233 hg w27 hbox hb; have n0_ := Aside0.mk (below_step (stB HB.out) hb); have n1_ := Aside0.mk (hbox); have n2_ := Aside0.mk ((by rw [hg]; exact (below_size (stB HB.out)) : w.heap.size ≤ gb233)); have n3_ := Aside0.mk ((by rw [hg]; exact (below_size (stB HB.out)) : w.heap.size ≤ gb233)); clear HB; have HB := n0_; have BK233 := n1_; have GW233 := n2_; have GE233 := n3_; clear n0_ n1_ n2_ n3_; clear hb hbox hg; obtain ⟨hcz28_0, hcz28_1, hcz28_2, hcz28_3, hcz28_4, hcz28_5⟩ := bc6 BK233.out; obtain ⟨hfz28_0, hfz28_1, hfz28_2, hfz28_3, hfz28_4, hfz28_5⟩ := bf6 BK233.out) | ((with_reducible refine gate_callee (f := 50) rfl ?_); refine goesL_ (some 5) rfl rfl Try.func50 (by kernel_rfl) rfl #[.int .i64 a0_0] rfl (by (try simp only [List.map_toArray, List.map_cons, List.map_nil]); first | done | rfl | (simp only [List.length_drop, List.length_take]; rfl)) ?_; (with_reducible refine (trivetref04_count.calls a0_0 true _ A2.out).mono ?_); rintro e w' ⟨rfl, ⟨nd, rfl⟩⟩; refine ⟨_, rfl, ?_⟩) | (go_at_call 50; (with_reducible refine (trivetref04_count.calls a0_1 false _ A5.out).mono ?_); rintro e w' ⟨rfl, ⟨nd, rfl⟩⟩))
    go_ret
    exact ⟨by first | rfl | (simp [errW_none, errW_some] <;> rfl) | (simp [*, errW_none, errW_some] <;> rfl), by repeat (first | (with_reducible first | exact HB.out | apply below_alloc | apply pw_below_drewN | apply below_drew1 | refine below_set ?_ GE233.out) | exact HB.out)⟩
  ·rw [if_neg c4] at H
   have c4b0 : decide (0 < a0_0) = false := decide_eq_false c4
   clear c4
   obtain rfl := Option.some.inj H
   go_enter Try.func48, Try.ntmps48
   go_wp2_with (first | ((with_reducible refine gate_dst (N := 1) rfl ?_); (try (refine gate_guard (by rfl) ?_; dsimp only)); refine box_event ?hg (N := 1) ?hd (cs := #[.int .i64 a0_0, .int .i64 a0_1, .slice A0_2 l0_2.length c0_2, .slice A0_3 l0_3.length c0_3, .slice A0_4 l0_4.length c0_4, .slice A0_5 l0_5.length c0_5]) (t := 32) ?hr ?_; (case hd => rfl); (case hg => rfl); (case hr => first | (go_simp; done) | (go_simp; rfl)); intro gb233 hg w29 hbox hb; have n0_ := Aside0.mk (below_step (stB HB.out) hb); have n1_ := Aside0.mk (hbox); have n2_ := Aside0.mk ((by rw [hg]; exact (below_size (stB HB.out)) : w.heap.size ≤ gb233)); have n3_ := Aside0.mk ((by rw [hg]; exact (below_size (stB HB.out)) : w.heap.size ≤ gb233)); clear HB; have HB := n0_; have BK233 := n1_; have GW233 := n2_; have GE233 := n3_; clear n0_ n1_ n2_ n3_; clear hb hbox hg; obtain ⟨hcz30_0, hcz30_1, hcz30_2, hcz30_3, hcz30_4, hcz30_5⟩ := bc6 BK233.out; obtain ⟨hfz30_0, hfz30_1, hfz30_2, hfz30_3, hfz30_4, hfz30_5⟩ := bf6 BK233.out) | ((with_reducible refine gate_callee (f := 50) rfl ?_); refine goesL_ (some 5) rfl rfl Try.func50 (by kernel_rfl) rfl #[.int .i64 a0_0] rfl (by (try simp only [List.map_toArray, List.map_cons, List.map_nil]); first | done | rfl | (simp only [List.length_drop, List.length_take]; rfl)) ?_; (with_reducible refine (trivetref04_count.calls a0_0 true _ A2.out).mono ?_); rintro e w' ⟨rfl, ⟨nd, rfl⟩⟩; refine ⟨_, rfl, ?_⟩))
   go_ret
   exact ⟨by first | rfl | (simp [errW_none, errW_some] <;> rfl) | (simp [*, errW_none, errW_some] <;> rfl), by repeat (first | (with_reducible first | exact HB.out | apply below_alloc | apply pw_below_drewN | apply below_drew1 | refine below_set ?_ GE233.out) | exact HB.out)⟩
 ·replace c3 := Bool.eq_false_iff.mpr c3
  subst c3
  have H1 : (some false) = some r := by rw [if_neg (show ¬ (false = true) by decide)] at H; exact H
  clear H
  have H := H1
  clear H1
  obtain rfl := Option.some.inj H
  go_enter Try.func48, Try.ntmps48
  go_wp2_with (first | ((with_reducible refine gate_dst (N := 1) rfl ?_); (try (refine gate_guard (by rfl) ?_; dsimp only)); refine box_event ?hg (N := 1) ?hd (cs := #[.int .i64 a0_0, .int .i64 a0_1, .slice A0_2 l0_2.length c0_2, .slice A0_3 l0_3.length c0_3, .slice A0_4 l0_4.length c0_4, .slice A0_5 l0_5.length c0_5]) (t := 32) ?hr ?_; (case hd => rfl); (case hg => rfl); (case hr => first | (go_simp; done) | (go_simp; rfl)); intro gb233 hg w31 hbox hb; have n0_ := Aside0.mk (below_step (stB HB.out) hb); have n1_ := Aside0.mk (hbox); have n2_ := Aside0.mk ((by rw [hg]; exact (below_size (stB HB.out)) : w.heap.size ≤ gb233)); have n3_ := Aside0.mk ((by rw [hg]; exact (below_size (stB HB.out)) : w.heap.size ≤ gb233)); clear HB; have HB := n0_; have BK233 := n1_; have GW233 := n2_; have GE233 := n3_; clear n0_ n1_ n2_ n3_; clear hb hbox hg; obtain ⟨hcz32_0, hcz32_1, hcz32_2, hcz32_3, hcz32_4, hcz32_5⟩ := bc6 BK233.out; obtain ⟨hfz32_0, hfz32_1, hfz32_2, hfz32_3, hfz32_4, hfz32_5⟩ := bf6 BK233.out) | ((with_reducible refine gate_callee (f := 50) rfl ?_); refine goesL_ (some 5) rfl rfl Try.func50 (by kernel_rfl) rfl #[.int .i64 a0_0] rfl (by (try simp only [List.map_toArray, List.map_cons, List.map_nil]); first | done | rfl | (simp only [List.length_drop, List.length_take]; rfl)) ?_; (with_reducible refine (trivetref04_count.calls a0_0 false _ A2.out).mono ?_); rintro e w' ⟨rfl, ⟨nd, rfl⟩⟩; refine ⟨_, rfl, ?_⟩))
  go_ret
  exact ⟨by first | rfl | (simp [errW_none, errW_some] <;> rfl) | (simp [*, errW_none, errW_some] <;> rfl), by repeat (first | (with_reducible first | exact HB.out | apply below_alloc | apply pw_below_drewN | apply below_drew1 | refine below_set ?_ GE233.out) | exact HB.out)⟩
def trivetref04_replica.f (a0 : Int) : Option (Bool) := if a0 ≥ 0 then (some (decide (a0 < 5))) else (some false)
set_option maxHeartbeats 8000000 in
set_option maxRecDepth 100000 in
theorem trivetref04_replica.calls (a0 : Int) (r : Bool) (w : World) (h : trivetref04_replica.f a0 = some r) :
  Calls Try.prog 49 #[.int .i64 a0] w fun e w' => e = .returned (.bool r) ∧ Drawn0 w w' := by
 have H : (if a0 ≥ 0 then (some (decide (a0 < 5))) else (some false)) = some r := h
 clear h
 by_cases c2 : a0 ≥ 0
 ·rw [if_pos c2] at H
  have c2b0 : decide (0 ≤ a0) = true := decide_eq_true c2
  clear c2
  obtain rfl := Option.some.inj H
  go_enter Try.func49, Try.ntmps49
  go_wp2
  go_ret
  exact ⟨by first | rfl | (simp; done) | (simp [*]; done), by repeat (first | exact Drawn0.refl _ | apply Drawn0.step)⟩
 ·rw [if_neg c2] at H
  have c2b0 : decide (0 ≤ a0) = false := decide_eq_false c2
  clear c2
  obtain rfl := Option.some.inj H
  go_enter Try.func49, Try.ntmps49
  go_wp2
  go_ret
  exact ⟨by first | rfl | (simp; done) | (simp [*]; done), by repeat (first | exact Drawn0.refl _ | apply Drawn0.step)⟩
end Go.Proofs.Ytgmlpmdfkaadhaa.G
end

section
-- Written by a program of this session's (wip/gprint.py over the kit's printer).
namespace Go.Proofs.Ytgmlpmdfkaadhaa.G
open Go.RowKit Go.Proofs.YtgmlpmdfkaadhaaW.PrintWords Go.Proofs.YtgmlpmdfkaadhaaW.PrintLast Go.Proofs.YtgmlpmdfkaadhaaW.PrintMore
attribute [local go_sem] max2_int min2_int max_two min_two max_three min_three max_four min_four   -- for this text's walks alone
def trivetref04_MayEntry.l0 : Nat → Int → Int → Int → Int → List (S32) → Option (Bool)
 | 0, _, _, _, _, _ => none
 | k + 1, x3, x239000, x239001, x239002, x239003 => if x3 < (x239003.length : Int) then (if 0 ≤ x3 then ((trivetref04_MayTxn.f k ((rd_T32 x239003 x3).f0) ((rd_T32 x239003 x3).f1) ((rd_T32 x239003 x3).f2) ((rd_T32 x239003 x3).f3) ((rd_T32 x239003 x3).f4) ((rd_T32 x239003 x3).f5)).bind fun t241 => (if t241 = true then (trivetref04_MayEntry.l0 k (wrap64 (x3 + 1)) x239000 x239001 x239002 x239003) else (some false))) else (none)) else (if x239000 = 1 then ((trivetref04_replica.f x239001).bind fun t242 => (if t242 = true then ((trivetref04_count.f x239002).bind fun t243 => (if t243 = true then (if (x239003.length : Int) ≥ 1 then (some (decide ((x239003.length : Int) ≤ 16))) else (some false)) else (some false))) else (some false))) else (some false))
def trivetref04_MayEntry.f (k : Nat) (a0_0 : Int) (a0_1 : Int) (a0_2 : Int) (l0_3 : List (S32)) : Option (Bool) := if a0_0 = 0 then ((trivetref04_SameEntry.f k a0_0 a0_1 a0_2 l0_3 0 0 0 ([] : List (S32))).bind fun t239 => (some t239)) else (trivetref04_MayEntry.l0 k 0 a0_0 a0_1 a0_2 l0_3)
set_option maxHeartbeats 8000000 in
set_option maxRecDepth 100000 in
theorem trivetref04_MayEntry.calls (k : Nat) (a0_0 : Int) (a0_1 : Int) (a0_2 : Int) (A0_3 : Option Addr) (c0_3 : Nat) (l0_3 : List (S32)) (r : Bool) (w : World) (hr0_3 : Kd.C k32 w A0_3 l0_3.length l0_3) (hc0_3 : l0_3.length ≤ c0_3) (h : trivetref04_MayEntry.f k a0_0 a0_1 a0_2 l0_3 = some r) :
  Calls Try.prog 31 #[.agg #[.int .i64 a0_0, .int .i64 a0_1, .int .i64 a0_2, .slice A0_3 l0_3.length c0_3]] w fun e w' => e = .returned (.bool r) ∧ Below w.heap.size w w' := by
 have hu36 := Try.underlying36
 have hu32 := Try.underlying32
 have HR0_3 := Aside0.mk hr0_3
 have HC0_3 := Aside0.mk hc0_3
 clear hr0_3 hc0_3
 have HB := Aside0.mk (Below.refl w.heap.size w)
 have H : (if a0_0 = 0 then ((trivetref04_SameEntry.f k a0_0 a0_1 a0_2 l0_3 0 0 0 ([] : List (S32))).bind fun t239 => (some t239)) else (trivetref04_MayEntry.l0 k 0 a0_0 a0_1 a0_2 l0_3)) = some r := h
 clear h
 by_cases c2 : a0_0 = 0
 ·rw [if_pos c2] at H
  have c2b0 : (a0_0 == 0) = true := beq_iff_eq.mpr c2
  have c2b1 : (a0_0 != 0) = false := bne_eq_false_iff_eq.mpr c2
  clear c2
  replace H := Option.bind_eq_some_iff.mp H
  obtain ⟨t239, A30, H⟩ := H
  replace H : (some t239) = some r := H
  have A3 := Aside0.mk A30
  clear A30
  obtain rfl := Option.some.inj H
  go_enter Try.func31, Try.ntmps31
  go_wp2_with (first | ((with_reducible refine gate_dst (N := 1) rfl ?_); (try (refine gate_guard (by rfl) ?_; dsimp only)); refine box_event ?hg (N := 1) ?hd (cs := #[.int .i64 a0_0, .int .i64 a0_1, .int .i64 a0_2, .slice A0_3 l0_3.length c0_3]) (t := 36) ?hr ?_; (case hd => rfl); (case hg => rfl); (case hr => first | (go_simp; done) | (go_simp; rfl)); intro gb238 hg w4 hbox hb; have n0_ := Aside0.mk (below_step (stB HB.out) hb); have n1_ := Aside0.mk (hbox); have n2_ := Aside0.mk ((by rw [hg]; exact (below_size (stB HB.out)) : w.heap.size ≤ gb238)); have n3_ := Aside0.mk ((by rw [hg]; exact (below_size (stB HB.out)) : w.heap.size ≤ gb238)); clear HB; have HB := n0_; have BK238 := n1_; have GW238 := n2_; have GE238 := n3_; clear n0_ n1_ n2_ n3_; clear hb hbox hg; obtain ⟨hcz5_0, hcz5_1, hcz5_2, hcz5_3⟩ := bc4 BK238.out; obtain ⟨hfz5_0, hfz5_1, hfz5_2, hfz5_3⟩ := bf4 BK238.out) | ((with_reducible refine gate_callee (f := 22) rfl ?_); refine goesL_ (some 9) rfl rfl Try.func22 (by kernel_rfl) rfl #[.agg #[.int .i64 a0_0, .int .i64 a0_1, .int .i64 a0_2, .slice A0_3 l0_3.length c0_3], .agg #[.int .i64 0, .int .i64 0, .int .i64 0, .slice none 0 0]] rfl (by (try simp only [List.map_toArray, List.map_cons, List.map_nil]); first | done | rfl | (simp only [List.length_drop, List.length_take]; rfl)) ?_; (refine (trivetref04_SameEntry.calls k a0_0 a0_1 a0_2 _ _ l0_3 0 0 0 _ _ ([] : List (S32)) t239 _ ?side1 ?side2 ?side3 ?side4 A3.out).mono ?_); (case side1 => exact stC (Kd.C_below HR0_3.out HB.out)); (case side2 => exact HC0_3.out); (case side3 => exact Kd.C_nil _ _); (case side4 => exact Nat.le_refl _); rintro e w6 ⟨rfl, hb⟩; refine ⟨_, rfl, ?_⟩; have n0_ := Aside0.mk (blk_below (g := gb238) (o := .cells #[.int .i64 a0_0, .int .i64 a0_1, .int .i64 a0_2, .slice A0_3 l0_3.length c0_3] 36 (0, 0)) (stK BK238.out) hb); have n1_ := Aside0.mk (below_step (by repeat (first | (with_reducible first | exact HB.out | apply below_alloc | apply pw_below_drewN | apply below_drew1 | refine below_set ?_ GE238.out) | exact HB.out)) hb); clear BK238; clear HB; have BK238 := n0_; have HB := n1_; clear n0_ n1_; (try clear hb); (try clear hb2); (try clear hk); (try clear hi)))
  go_ret
  exact ⟨by first | rfl | (simp [errW_none, errW_some] <;> rfl) | (simp [*, errW_none, errW_some] <;> rfl), by repeat (first | (with_reducible first | exact HB.out | apply below_alloc | apply pw_below_drewN | apply below_drew1 | refine below_set ?_ GE238.out) | exact HB.out)⟩
 ·rw [if_neg c2] at H
  have c2b0 : (a0_0 == 0) = false := beq_eq_false_iff_ne.mpr c2
  have c2b1 : (a0_0 != 0) = true := bne_iff_ne.mpr c2
  have H' := Aside0.mk H
  clear H
  go_enter Try.func31, Try.ntmps31
  go_wp2_with (first | ((with_reducible refine gate_dst (N := 1) rfl ?_); (try (refine gate_guard (by rfl) ?_; dsimp only)); refine box_event ?hg (N := 1) ?hd (cs := #[.int .i64 a0_0, .int .i64 a0_1, .int .i64 a0_2, .slice A0_3 l0_3.length c0_3]) (t := 36) ?hr ?_; (case hd => rfl); (case hg => rfl); (case hr => first | (go_simp; done) | (go_simp; rfl)); intro gb238 hg w7 hbox hb; have n0_ := Aside0.mk (below_step (stB HB.out) hb); have n1_ := Aside0.mk (hbox); have n2_ := Aside0.mk ((by rw [hg]; exact (below_size (stB HB.out)) : w.heap.size ≤ gb238)); have n3_ := Aside0.mk ((by rw [hg]; exact (below_size (stB HB.out)) : w.heap.size ≤ gb238)); clear HB; have HB := n0_; have BK238 := n1_; have GW238 := n2_; have GE238 := n3_; clear n0_ n1_ n2_ n3_; clear hb hbox hg; obtain ⟨hcz8_0, hcz8_1, hcz8_2, hcz8_3⟩ := bc4 BK238.out; obtain ⟨hfz8_0, hfz8_1, hfz8_2, hfz8_3⟩ := bf4 BK238.out))
  go_loopg [3] k (fun kq v3 w' => ∃ (x3_1 : Int), v3 = .int .i64 x3_1 ∧ Aside0 (trivetref04_MayEntry.l0 kq x3_1 a0_0 a0_1 a0_2 l0_3 = some r) ∧ Aside0 (kq ≤ k) ∧ Aside0 (w'.heap[gb238]? = some (.cells #[.int .i64 a0_0, .int .i64 a0_1, .int .i64 a0_2, (.slice A0_3 l0_3.length c0_3)] 36 (0, 0))) ∧ Aside0 (Below w.heap.size w w'))
  case atStart => exact ⟨(0), (by first | rfl | (simp; done) | (simp [*]; done)), H', ⟨Nat.le_refl _⟩, ⟨stK BK238.out⟩, ⟨by repeat (first | (with_reducible first | exact HB.out | apply below_alloc | apply pw_below_drewN | apply below_drew1 | refine below_set ?_ GE238.out) | exact HB.out)⟩⟩
  case round =>
   clear H'
   try clear c2
   try clear c2b0
   try clear c2b1
   try clear p2
   try clear c3
   try clear hcz5_0
   try clear hcz5_1
   try clear hcz5_2
   try clear hcz5_3
   try clear hcz8_0
   try clear hcz8_1
   try clear hcz8_2
   try clear hcz8_3
   try clear hfz5_0
   try clear hfz5_1
   try clear hfz5_2
   try clear hfz5_3
   try clear hfz8_0
   try clear hfz8_1
   try clear hfz8_2
   try clear hfz8_3
   obtain ⟨x3_1, rfl, HA, HK1, BK238, HB⟩ := hrel
   cases gk with
   | zero => exact absurd HA.out (by simp [trivetref04_MayEntry.l0])
   | succ k1 =>
    have H := HA.out
    clear HA
    simp only [trivetref04_MayEntry.l0] at H
    by_cases c9 : x3_1 < (l0_3.length : Int)
    ·rw [if_pos c9] at H
     have c9b0 : decide (x3_1 < (l0_3.length : Int)) = true := decide_eq_true c9
     clear c9
     by_cases c10 : 0 ≤ x3_1
     ·rw [if_pos c10] at H
      have c10b0 : decide (0 ≤ x3_1) = true := decide_eq_true c10
      clear c10
      replace H := Option.bind_eq_some_iff.mp H
      obtain ⟨t241, A110, H⟩ := H
      replace H : (if t241 = true then (trivetref04_MayEntry.l0 k1 (wrap64 (x3_1 + 1)) a0_0 a0_1 a0_2 l0_3) else (some false)) = some r := H
      have A11 := Aside0.mk A110
      clear A110
      by_cases c12 : t241 = true
      ·subst c12
       have H1 : (trivetref04_MayEntry.l0 k1 (wrap64 (x3_1 + 1)) a0_0 a0_1 a0_2 l0_3) = some r := by rw [if_pos rfl] at H; exact H
       clear H
       have H := H1
       clear H1
       have H' := Aside0.mk H
       clear H
       obtain ⟨hcz13_0, hcz13_1, hcz13_2, hcz13_3⟩ := bc4 BK238.out
       obtain ⟨hfz13_0, hfz13_1, hfz13_2, hfz13_3⟩ := bf4 BK238.out
       have p240 : 0 ≤ (x3_1 : Int) := of_decide_eq_true (by first | (with_reducible assumption) | assumption)
       have q240 : x3_1 < (l0_3.length : Int) := of_decide_eq_true (by first | (with_reducible assumption) | assumption)
       obtain ⟨ad240, A240_2, c240_2, A240_3, c240_3, A240_4, c240_4, A240_5, c240_5, e240, hx240_0, hx240_1, hx240_2, hx240_3, hx240_4, hx240_5, hl240_2, hi240_2, hl240_3, hi240_3, hl240_4, hi240_4, hl240_5, hi240_5⟩ := at_T32 HR0_3.out x3_1 p240 q240
       cases e240
       replace hx240_0 := cu HB.out hx240_0
       replace hx240_1 := cu HB.out hx240_1
       replace hx240_2 := cu HB.out hx240_2
       replace hx240_3 := cu HB.out hx240_3
       replace hx240_4 := cu HB.out hx240_4
       replace hx240_5 := cu HB.out hx240_5
       have HR240_2 := Aside0.mk hi240_2
       have HC240_2 := Aside0.mk hl240_2
       clear hi240_2 hl240_2
       have HR240_3 := Aside0.mk hi240_3
       have HC240_3 := Aside0.mk hl240_3
       clear hi240_3 hl240_3
       have HR240_4 := Aside0.mk hi240_4
       have HC240_4 := Aside0.mk hl240_4
       clear hi240_4 hl240_4
       have HR240_5 := Aside0.mk hi240_5
       have HC240_5 := Aside0.mk hl240_5
       clear hi240_5 hl240_5
       replace p240 := eq_true p240
       replace q240 := eq_true q240
       go_wp2_with (first | ((with_reducible refine gate_callee (f := 48) rfl ?_); refine goesL_ (some 22) rfl rfl Try.func48 (by kernel_rfl) rfl #[.agg #[.int .i64 ((rd_T32 l0_3 x3_1).f0), .int .i64 ((rd_T32 l0_3 x3_1).f1), .slice A240_2 ((rd_T32 l0_3 x3_1).f2).length c240_2, .slice A240_3 ((rd_T32 l0_3 x3_1).f3).length c240_3, .slice A240_4 ((rd_T32 l0_3 x3_1).f4).length c240_4, .slice A240_5 ((rd_T32 l0_3 x3_1).f5).length c240_5]] rfl (by (try simp only [List.map_toArray, List.map_cons, List.map_nil]); first | done | rfl | (simp only [List.length_drop, List.length_take]; rfl)) ?_; (with_reducible refine (trivetref04_MayTxn.calls k1 ((rd_T32 l0_3 x3_1).f0) ((rd_T32 l0_3 x3_1).f1) _ _ ((rd_T32 l0_3 x3_1).f2) _ _ ((rd_T32 l0_3 x3_1).f3) _ _ ((rd_T32 l0_3 x3_1).f4) _ _ ((rd_T32 l0_3 x3_1).f5) true _ ?side1 ?side2 ?side3 ?side4 ?side5 ?side6 ?side7 ?side8 A11.out).mono ?_); (case side1 => exact stC (Kd.C_below HR240_2.out HB.out)); (case side2 => exact HC240_2.out); (case side3 => exact stC (Kd.C_below HR240_3.out HB.out)); (case side4 => exact HC240_3.out); (case side5 => exact stC (Kd.C_below HR240_4.out HB.out)); (case side6 => exact HC240_4.out); (case side7 => exact stC (Kd.C_below HR240_5.out HB.out)); (case side8 => exact HC240_5.out); rintro e w14 ⟨rfl, hb⟩; refine ⟨_, rfl, ?_⟩; have n0_ := Aside0.mk (blk_below (g := gb238) (o := .cells #[.int .i64 a0_0, .int .i64 a0_1, .int .i64 a0_2, .slice (some ad240) l0_3.length c0_3] 36 (0, 0)) (stK BK238.out) hb); have n1_ := Aside0.mk (below_step (by repeat (first | (with_reducible first | exact HB.out | apply below_alloc | apply pw_below_drewN | apply below_drew1 | refine below_set ?_ GE238.out) | exact HB.out)) hb); clear BK238; clear HB; have BK238 := n0_; have HB := n1_; clear n0_ n1_; (try clear hb); (try clear hb2); (try clear hk); (try clear hi)))
       go_roundg k1
       case measure => have := HK1.out; omega
       case rel => exact ⟨(wrap64 (x3_1 + 1)), (by first | rfl | (simp; done) | (simp [*]; done)), H', ⟨by have := HK1.out; omega⟩, ⟨stK BK238.out⟩, ⟨by repeat (first | (with_reducible first | exact HB.out | apply below_alloc | apply pw_below_drewN | apply below_drew1 | refine below_set ?_ GE238.out) | exact HB.out)⟩⟩
      ·replace c12 := Bool.eq_false_iff.mpr c12
       subst c12
       have H1 : (some false) = some r := by rw [if_neg (show ¬ (false = true) by decide)] at H; exact H
       clear H
       have H := H1
       clear H1
       obtain rfl := Option.some.inj H
       obtain ⟨hcz15_0, hcz15_1, hcz15_2, hcz15_3⟩ := bc4 BK238.out
       obtain ⟨hfz15_0, hfz15_1, hfz15_2, hfz15_3⟩ := bf4 BK238.out
       have p240 : 0 ≤ (x3_1 : Int) := of_decide_eq_true (by first | (with_reducible assumption) | assumption)
       have q240 : x3_1 < (l0_3.length : Int) := of_decide_eq_true (by first | (with_reducible assumption) | assumption)
       obtain ⟨ad240, A240_2, c240_2, A240_3, c240_3, A240_4, c240_4, A240_5, c240_5, e240, hx240_0, hx240_1, hx240_2, hx240_3, hx240_4, hx240_5, hl240_2, hi240_2, hl240_3, hi240_3, hl240_4, hi240_4, hl240_5, hi240_5⟩ := at_T32 HR0_3.out x3_1 p240 q240
       cases e240
       replace hx240_0 := cu HB.out hx240_0
       replace hx240_1 := cu HB.out hx240_1
       replace hx240_2 := cu HB.out hx240_2
       replace hx240_3 := cu HB.out hx240_3
       replace hx240_4 := cu HB.out hx240_4
       replace hx240_5 := cu HB.out hx240_5
       have HR240_2 := Aside0.mk hi240_2
       have HC240_2 := Aside0.mk hl240_2
       clear hi240_2 hl240_2
       have HR240_3 := Aside0.mk hi240_3
       have HC240_3 := Aside0.mk hl240_3
       clear hi240_3 hl240_3
       have HR240_4 := Aside0.mk hi240_4
       have HC240_4 := Aside0.mk hl240_4
       clear hi240_4 hl240_4
       have HR240_5 := Aside0.mk hi240_5
       have HC240_5 := Aside0.mk hl240_5
       clear hi240_5 hl240_5
       replace p240 := eq_true p240
       replace q240 := eq_true q240
       go_wp2_with (first | ((with_reducible refine gate_callee (f := 48) rfl ?_); refine goesL_ (some 22) rfl rfl Try.func48 (by kernel_rfl) rfl #[.agg #[.int .i64 ((rd_T32 l0_3 x3_1).f0), .int .i64 ((rd_T32 l0_3 x3_1).f1), .slice A240_2 ((rd_T32 l0_3 x3_1).f2).length c240_2, .slice A240_3 ((rd_T32 l0_3 x3_1).f3).length c240_3, .slice A240_4 ((rd_T32 l0_3 x3_1).f4).length c240_4, .slice A240_5 ((rd_T32 l0_3 x3_1).f5).length c240_5]] rfl (by (try simp only [List.map_toArray, List.map_cons, List.map_nil]); first | done | rfl | (simp only [List.length_drop, List.length_take]; rfl)) ?_; (with_reducible refine (trivetref04_MayTxn.calls k1 ((rd_T32 l0_3 x3_1).f0) ((rd_T32 l0_3 x3_1).f1) _ _ ((rd_T32 l0_3 x3_1).f2) _ _ ((rd_T32 l0_3 x3_1).f3) _ _ ((rd_T32 l0_3 x3_1).f4) _ _ ((rd_T32 l0_3 x3_1).f5) false _ ?side1 ?side2 ?side3 ?side4 ?side5 ?side6 ?side7 ?side8 A11.out).mono ?_); (case side1 => exact stC (Kd.C_below HR240_2.out HB.out)); (case side2 => exact HC240_2.out); (case side3 => exact stC (Kd.C_below HR240_3.out HB.out)); (case side4 => exact HC240_3.out); (case side5 => exact stC (Kd.C_below HR240_4.out HB.out)); (case side6 => exact HC240_4.out); (case side7 => exact stC (Kd.C_below HR240_5.out HB.out)); (case side8 => exact HC240_5.out); rintro e w16 ⟨rfl, hb⟩; refine ⟨_, rfl, ?_⟩; have n0_ := Aside0.mk (blk_below (g := gb238) (o := .cells #[.int .i64 a0_0, .int .i64 a0_1, .int .i64 a0_2, .slice (some ad240) l0_3.length c0_3] 36 (0, 0)) (stK BK238.out) hb); have n1_ := Aside0.mk (below_step (by repeat (first | (with_reducible first | exact HB.out | apply below_alloc | apply pw_below_drewN | apply below_drew1 | refine below_set ?_ GE238.out) | exact HB.out)) hb); clear BK238; clear HB; have BK238 := n0_; have HB := n1_; clear n0_ n1_; (try clear hb); (try clear hb2); (try clear hk); (try clear hi)))
       go_ret
       exact ⟨by first | rfl | (simp [errW_none, errW_some] <;> rfl) | (simp [*, errW_none, errW_some] <;> rfl), by repeat (first | (with_reducible first | exact HB.out | apply below_alloc | apply pw_below_drewN | apply below_drew1 | refine below_set ?_ GE238.out) | exact HB.out)⟩
     ·rw [if_neg c10] at H
      exact absurd H (by simp)
    ·rw [if_neg c9] at H
     have c9b0 : decide (x3_1 < (l0_3.length : Int)) = false := decide_eq_false c9
     clear c9
     by_cases c17 : a0_0 = 1
     ·rw [if_pos c17] at H
      have c17b0 : (a0_0 == 1) = true := beq_iff_eq.mpr c17
      have c17b1 : (a0_0 != 1) = false := bne_eq_false_iff_eq.mpr c17
      clear c17
      replace H := Option.bind_eq_some_iff.mp H
      obtain ⟨t242, A180, H⟩ := H
      replace H : (if t242 = true then ((trivetref04_count.f a0_2).bind fun t243 => (if t243 = true then (if (l0_3.length : Int) ≥ 1 then (some (decide ((l0_3.length : Int) ≤ 16))) else (some false)) else (some false))) else (some false)) = some r := H
      have A18 := Aside0.mk A180
      clear A180
      by_cases c19 : t242 = true
      ·subst c19
       have H1 : ((trivetref04_count.f a0_2).bind fun t243 => (if t243 = true then (if (l0_3.length : Int) ≥ 1 then (some (decide ((l0_3.length : Int) ≤ 16))) else (some false)) else (some false))) = some r := by rw [if_pos rfl] at H; exact H
       clear H
       have H := H1
       clear H1
       replace H := Option.bind_eq_some_iff.mp H
       obtain ⟨t243, A200, H⟩ := H
       replace H : (if t243 = true then (if (l0_3.length : Int) ≥ 1 then (some (decide ((l0_3.length : Int) ≤ 16))) else (some false)) else (some false)) = some r := H
       have A20 := Aside0.mk A200
       clear A200
       by_cases c21 : t243 = true
       ·subst c21
        have H1 : (if (l0_3.length : Int) ≥ 1 then (some (decide ((l0_3.length : Int) ≤ 16))) else (some false)) = some r := by rw [if_pos rfl] at H; exact H
        clear H
        have H := H1
        clear H1
        by_cases c22 : (l0_3.length : Int) ≥ 1
        ·rw [if_pos c22] at H
         have c22b0 : decide (1 ≤ (l0_3.length : Int)) = true := decide_eq_true c22
         have c22b1 : decide (1 ≤ l0_3.length) = true := decide_eq_true (by omega)
         clear c22
         obtain rfl := Option.some.inj H
         obtain ⟨hcz23_0, hcz23_1, hcz23_2, hcz23_3⟩ := bc4 BK238.out
         obtain ⟨hfz23_0, hfz23_1, hfz23_2, hfz23_3⟩ := bf4 BK238.out
         go_wp2_with (first | (go_at_call 49; (with_reducible refine (trivetref04_replica.calls a0_1 true _ A18.out).mono ?_); rintro e w' ⟨rfl, ⟨nd, rfl⟩⟩) | (go_at_call 50; (with_reducible refine (trivetref04_count.calls a0_2 true _ A20.out).mono ?_); rintro e w' ⟨rfl, ⟨nd, rfl⟩⟩))
         go_ret
         exact ⟨by first | rfl | (simp [errW_none, errW_some] <;> rfl) | (simp [*, errW_none, errW_some] <;> rfl), by repeat (first | (with_reducible first | exact HB.out | apply below_alloc | apply pw_below_drewN | apply below_drew1 | refine below_set ?_ GE238.out) | exact HB.out)⟩
        ·rw [if_neg c22] at H
         have c22b0 : decide (1 ≤ (l0_3.length : Int)) = false := decide_eq_false c22
         have c22b1 : decide (1 ≤ l0_3.length) = false := decide_eq_false (by omega)
         clear c22
         obtain rfl := Option.some.inj H
         obtain ⟨hcz24_0, hcz24_1, hcz24_2, hcz24_3⟩ := bc4 BK238.out
         obtain ⟨hfz24_0, hfz24_1, hfz24_2, hfz24_3⟩ := bf4 BK238.out
         go_wp2_with (first | (go_at_call 49; (with_reducible refine (trivetref04_replica.calls a0_1 true _ A18.out).mono ?_); rintro e w' ⟨rfl, ⟨nd, rfl⟩⟩) | (go_at_call 50; (with_reducible refine (trivetref04_count.calls a0_2 true _ A20.out).mono ?_); rintro e w' ⟨rfl, ⟨nd, rfl⟩⟩))
         go_ret
         exact ⟨by first | rfl | (simp [errW_none, errW_some] <;> rfl) | (simp [*, errW_none, errW_some] <;> rfl), by repeat (first | (with_reducible first | exact HB.out | apply below_alloc | apply pw_below_drewN | apply below_drew1 | refine below_set ?_ GE238.out) | exact HB.out)⟩
       ·replace c21 := Bool.eq_false_iff.mpr c21
        subst c21
        have H1 : (some false) = some r := by rw [if_neg (show ¬ (false = true) by decide)] at H; exact H
        clear H
        have H := H1
        clear H1
        obtain rfl := Option.some.inj H
        obtain ⟨hcz25_0, hcz25_1, hcz25_2, hcz25_3⟩ := bc4 BK238.out
        obtain ⟨hfz25_0, hfz25_1, hfz25_2, hfz25_3⟩ := bf4 BK238.out
        go_wp2_with (first | (go_at_call 49; (with_reducible refine (trivetref04_replica.calls a0_1 true _ A18.out).mono ?_); rintro e w' ⟨rfl, ⟨nd, rfl⟩⟩) | (go_at_call 50; (with_reducible refine (trivetref04_count.calls a0_2 false _ A20.out).mono ?_); rintro e w' ⟨rfl, ⟨nd, rfl⟩⟩))
        go_ret
        exact ⟨by first | rfl | (simp [errW_none, errW_some] <;> rfl) | (simp [*, errW_none, errW_some] <;> rfl), by repeat (first | (with_reducible first | exact HB.out | apply below_alloc | apply pw_below_drewN | apply below_drew1 | refine below_set ?_ GE238.out) | exact HB.out)⟩
      ·replace c19 := Bool.eq_false_iff.mpr c19
       subst c19
       have H1 : (some false) = some r := by rw [if_neg (show ¬ (false = true) by decide)] at H; exact H
       clear H
       have H := H1
       clear H1
       obtain rfl := Option.some.inj H
       obtain ⟨hcz26_0, hcz26_1, hcz26_2, hcz26_3⟩ := bc4 BK238.out
       obtain ⟨hfz26_0, hfz26_1, hfz26_2, hfz26_3⟩ := bf4 BK238.out
       go_wp2_with (first | (go_at_call 49; (with_reducible refine (trivetref04_replica.calls a0_1 false _ A18.out).mono ?_); rintro e w' ⟨rfl, ⟨nd, rfl⟩⟩))
       go_ret
       exact ⟨by first | rfl | (simp [errW_none, errW_some] <;> rfl) | (simp [*, errW_none, errW_some] <;> rfl), by repeat (first | (with_reducible first | exact HB.out | apply below_alloc | apply pw_below_drewN | apply below_drew1 | refine below_set ?_ GE238.out) | exact HB.out)⟩
     ·rw [if_neg c17] at H
      have c17b0 : (a0_0 == 1) = false := beq_eq_false_iff_ne.mpr c17
      have c17b1 : (a0_0 != 1) = true := bne_iff_ne.mpr c17
      obtain rfl := Option.some.inj H
      obtain ⟨hcz27_0, hcz27_1, hcz27_2, hcz27_3⟩ := bc4 BK238.out
      obtain ⟨hfz27_0, hfz27_1, hfz27_2, hfz27_3⟩ := bf4 BK238.out
      go_wp2
      go_ret
      exact ⟨by first | rfl | (simp [errW_none, errW_some] <;> rfl) | (simp [*, errW_none, errW_some] <;> rfl), by repeat (first | (with_reducible first | exact HB.out | apply below_alloc | apply pw_below_drewN | apply below_drew1 | refine below_set ?_ GE238.out) | exact HB.out)⟩
end Go.Proofs.Ytgmlpmdfkaadhaa.G
end

section
/- The reference's entries in plain Lean: SameEntry, MayEntry. -/
namespace Go.Proofs.Ytgmlpmdfkaadhaa.M
open Go.RowKit Go.Proofs.YtgmlpmdfkaadhaaW.PrintWords Go.Proofs.YtgmlpmdfkaadhaaW.PrintLast Go.Proofs.YtgmlpmdfkaadhaaW.PrintMore Go.Proofs.Ytgmlpmdfkaadhaa.G
def mT (t : TxD) : Nat := t.f3.length + t.f4.length + t.f5.length
theorem rdT_eq {a : List TxD} {i : Nat} {x : TxD} (h : a[i]? = some x) : G.rd_T32 a (i : Int) = x := by
 unfold G.rd_T32
 rw [Int.toNat_natCast, List.getD_eq_getElem?_getD, h]
 rfl
theorem rdK_eq {a : List KeyD} {i : Nat} {x : KeyD} (h : a[i]? = some x) : G.rd_T54 a (i : Int) = x := by
 unfold G.rd_T54
 rw [Int.toNat_natCast, List.getD_eq_getElem?_getD, h]
 rfl
theorem sameEn_l : ∀ (k : Nat) (x0 x1 x2 : Int) (a : List TxD) (y0 y1 y2 : Int) (b : List TxD) (i : Nat), (∀ t ∈ a, mT t + a.length + 1 < i + k) → a.length < i + k → i ≤ a.length → a.length = b.length → a.length ≤ 9223372036854775807 → (∀ t ∈ a, TxLe t 9223372036854775807) → G.trivetref04_SameEntry.l0 k (i : Int) x0 x1 x2 a y0 y1 y2 b = some (eqTs (a.drop i) (b.drop i))
 | 0, x0, x1, x2, a, y0, y1, y2, b, i, hf, hk, hi, _, _, _ => by omega
 | k + 1, x0, x1, x2, a, y0, y1, y2, b, i, hf, hk, hi, hl, hm, ht => by
  simp only [G.trivetref04_SameEntry.l0]
  by_cases hlt : i < a.length
  ·obtain ⟨x, hx⟩ : ∃ x, a[i]? = some x := ⟨_, List.getElem?_eq_getElem hlt⟩
   obtain ⟨y, hy⟩ : ∃ y, b[i]? = some y := ⟨_, List.getElem?_eq_getElem (by omega)⟩
   have d1 := drop_cons hx
   have d2 := drop_cons hy
   have hw : wrap64 ((i : Int) + 1) = ((i + 1 : Nat) : Int) := by unfold wrap64; omega
   have hxm := List.mem_of_getElem? hx
   have hfx := hf x hxm
   unfold mT at hfx
   rw [if_pos (by omega : (i : Int) < (a.length : Int)), if_pos (by omega : (0 : Int) ≤ (i : Int)), if_pos (by omega : (i : Int) < (b.length : Int)), rdT_eq hx, rdT_eq hy, sameTxn_r k x y (ht x hxm) ⟨by omega, by omega, by omega⟩]
   rw [Option.bind_some, d1, d2]
   cases he : eqTx x y with
   | true =>
    rw [if_pos rfl, hw, sameEn_l k x0 x1 x2 a y0 y1 y2 b (i + 1) (fun t h => by have := hf t h; omega) (by omega) (by omega) hl hm ht]
    simp [eqTs, he]
   | false =>
    rw [if_neg (by simp)]
    simp [eqTs, he]
  ·rw [if_neg (by omega), List.drop_of_length_le (by omega), List.drop_of_length_le (by omega)]
   rfl
theorem sameEn_r (k : Nat) (x0 x1 x2 : Int) (a : List TxD) (y0 y1 y2 : Int) (b : List TxD) (hf : ∀ t ∈ a, mT t + a.length + 2 < k) (hk : a.length + 1 < k) (hm : a.length ≤ 9223372036854775807) (ht : ∀ t ∈ a, TxLe t 9223372036854775807) :
  G.trivetref04_SameEntry.f k x0 x1 x2 a y0 y1 y2 b = some (eqEn x0 x1 x2 a y0 y1 y2 b) := by
 obtain ⟨k, rfl⟩ : ∃ j, k = j + 1 := ⟨k - 1, by omega⟩
 unfold G.trivetref04_SameEntry.f eqEn
 by_cases h0 : x0 = y0
 ·by_cases h1 : x1 = y1
  ·by_cases h2 : x2 = y2
   ·rw [if_pos h0, if_pos h1, if_pos h2]
    simp only [G.trivetref04_SameEntry.j0]
    by_cases hl : a.length = b.length
    ·have e : ((a.length : Int) != (b.length : Int)) = false := by rw [hl]; simp
     rw [e, if_neg (by simp)]
     have := sameEn_l k x0 x1 x2 a y0 y1 y2 b 0 (fun t h => by have := hf t h; omega) (by omega) (by omega) hl hm ht
     rw [show ((0 : Nat) : Int) = 0 from rfl] at this
     rw [this]
     simp [h0, h1, h2]
    ·have e : ((a.length : Int) != (b.length : Int)) = true := by rw [bne_iff_ne]; omega
     rw [e, if_pos rfl, eqTs_len hl]
     simp
   ·rw [if_pos h0, if_pos h1, if_neg h2]
    simp [G.trivetref04_SameEntry.j0, h2]
  ·rw [if_pos h0, if_neg h1]
   simp [G.trivetref04_SameEntry.j0, h1]
 ·rw [if_neg h0]
  simp [G.trivetref04_SameEntry.j0, h0]
theorem less_f (a b : KeyD) : G.trivetref04_Less.f a.f0 a.f1 b.f0 b.f1 = some (kLt (kv a) (kv b)) := by
 unfold G.trivetref04_Less.f kLt kv
 by_cases h : a.f0 < b.f0
 ·rw [if_pos h]; simp [h]
 ·rw [if_neg h]
  by_cases h1 : a.f0 = b.f0
  ·rw [if_pos h1]; simp [h, h1]
  ·rw [if_neg h1]; simp [h, h1]
theorem mayK_l : ∀ (k : Nat) (a : List KeyD) (i : Nat), a.length < i + k → i ≤ a.length → a.length ≤ 9223372036854775807 → G.trivetref04_MayKeys.l0 k a ((i + 1 : Nat) : Int) = some (risB (a.drop i) && decide (a.length ≤ 16))
 | 0, a, i, hk, hi, _ => by omega
 | k + 1, a, i, hk, hi, hm => by
  simp only [G.trivetref04_MayKeys.l0]
  have hw0 : wrap64 (((i + 1 : Nat) : Int) - 1) = (i : Int) := by unfold wrap64; omega
  by_cases hlt : i + 1 < a.length
  ·obtain ⟨x, hx⟩ : ∃ x, a[i]? = some x := ⟨_, List.getElem?_eq_getElem (by omega)⟩
   obtain ⟨y, hy⟩ : ∃ y, a[i + 1]? = some y := ⟨_, List.getElem?_eq_getElem hlt⟩
   have d1 := drop_cons hx
   have d2 := drop_cons hy
   have hw : wrap64 (((i + 1 : Nat) : Int) + 1) = ((i + 1 + 1 : Nat) : Int) := by unfold wrap64; omega
   rw [hw0, if_pos (by omega : ((i + 1 : Nat) : Int) < (a.length : Int)), if_pos (by omega : (0 : Int) ≤ (i : Int)), if_pos (by omega : (i : Int) < (a.length : Int)), if_pos (by omega : (0 : Int) ≤ ((i + 1 : Nat) : Int)), rdK_eq hx, rdK_eq hy, less_f, Option.bind_some]
   rw [d1, d2]
   unfold risB
   cases he : kLt (kv x) (kv y) with
   | true =>
    rw [if_pos rfl, hw, mayK_l k a (i + 1) (by omega) (by omega) hm, d2, Bool.true_and]
   | false => rw [if_neg (by simp)]; simp
  ·rw [if_neg (by omega)]
   have e1 : risB (a.drop i) = true := by
    have hl : (a.drop i).length ≤ 1 := by rw [List.length_drop]; omega
    match h : a.drop i, hl with
    | [], _ => rfl
    | [_], _ => rfl
   rw [e1, Bool.true_and]
   congr 1
   rw [Bool.eq_iff_iff, decide_eq_true_eq, decide_eq_true_eq]
   omega
theorem mayK_r (k : Nat) (a : List KeyD) (hk : a.length < k) (hm : a.length ≤ 9223372036854775807) : G.trivetref04_MayKeys.f k a = some (mayK a) := by
 unfold G.trivetref04_MayKeys.f mayK
 have := mayK_l k a 0 (by omega) (by omega) hm
 rw [show (((0 + 1 : Nat)) : Int) = 1 from rfl] at this
 rw [this, List.drop_zero, Bool.and_comm]
def TxLs (t : TxD) : Prop := t.f2.length ≤ 9223372036854775807 ∧ t.f3.length ≤ 9223372036854775807 ∧ t.f4.length ≤ 9223372036854775807 ∧ t.f5.length ≤ 9223372036854775807
theorem count_f (n : Int) : G.trivetref04_count.f n = some (decide (0 ≤ n) && decide (n ≤ 1099511627776)) := by
 unfold G.trivetref04_count.f
 by_cases h : 0 ≤ n
 ·rw [if_pos h, decide_eq_true h, Bool.true_and]
 ·rw [if_neg h, decide_eq_false h, Bool.false_and]
theorem mayT_r (k : Nat) (t : TxD) (hk : mT t < k) (hm : TxLs t) : G.trivetref04_MayTxn.f k t.f0 t.f1 t.f2 t.f3 t.f4 t.f5 = some (mayT t) := by
 unfold mT at hk
 obtain ⟨h2, h3, h4, h5⟩ := hm
 unfold G.trivetref04_MayTxn.f mayT inB
 rw [count_f, count_f, mayK_r k t.f4 (by omega) h4, mayK_r k t.f5 (by omega) h5]
 simp only [Option.bind_some, List.all_cons, List.all_nil, Bool.and_true]
 by_cases a0 : 1 ≤ t.f0 ∧ t.f0 ≤ 1099511627776
 ·have e0 : (decide (0 ≤ t.f0) && decide (t.f0 ≤ 1099511627776)) = true := by simp; omega
  have e0' : (decide (1 ≤ t.f0) && decide (t.f0 ≤ 1099511627776)) = true := by simp; omega
  rw [e0, e0', if_pos rfl, if_pos (by omega : t.f0 > 0), Bool.true_and]
  by_cases a1 : 1 ≤ t.f1 ∧ t.f1 ≤ 1099511627776
  ·have e1 : (decide (0 ≤ t.f1) && decide (t.f1 ≤ 1099511627776)) = true := by simp; omega
   have e1' : (decide (1 ≤ t.f1) && decide (t.f1 ≤ 1099511627776)) = true := by simp; omega
   rw [e1, e1', if_pos rfl, if_pos (by omega : t.f1 > 0), Bool.true_and]
   by_cases a2 : t.f2.length ≤ 512
   ·rw [if_pos (by omega), decide_eq_true a2, Bool.true_and]
    by_cases a3 : t.f3.length ≤ 8
    ·rw [if_pos (by omega), decide_eq_true a3, Bool.true_and]
     cases mayK t.f4 <;> simp
    ·rw [if_neg (by omega), decide_eq_false a3, Bool.false_and]
   ·rw [if_neg (by omega), decide_eq_false a2, Bool.false_and]
  ·have e1' : (decide (1 ≤ t.f1) && decide (t.f1 ≤ 1099511627776)) = false := by rw [← Bool.not_eq_true]; simp; omega
   rw [e1', Bool.false_and]
   cases e1 : (decide (0 ≤ t.f1) && decide (t.f1 ≤ 1099511627776)) with
   | false => simp
   | true =>
    rw [if_pos rfl, if_neg]
    simp at e1
    omega
 ·have e0' : (decide (1 ≤ t.f0) && decide (t.f0 ≤ 1099511627776)) = false := by rw [← Bool.not_eq_true]; simp; omega
  rw [e0', Bool.false_and, Bool.false_and]
  cases e0 : (decide (0 ≤ t.f0) && decide (t.f0 ≤ 1099511627776)) with
  | false => simp
  | true =>
   rw [if_pos rfl, if_neg]
   simp at e0
   omega
theorem mayE_l : ∀ (k : Nat) (x0 x1 x2 : Int) (a : List TxD) (i : Nat), (∀ t ∈ a, mT t + a.length + 1 < i + k) → a.length < i + k → i ≤ a.length → a.length ≤ 9223372036854775807 → (∀ t ∈ a, TxLs t) → G.trivetref04_MayEntry.l0 k (i : Int) x0 x1 x2 a = some ((a.drop i).all mayT && (x0 == 1 && (inB 0 4 [x1] && (inB 0 1099511627776 [x2] && inB 1 16 [(a.length : Int)]))))
 | 0, x0, x1, x2, a, i, hf, hk, hi, _, _ => by omega
 | k + 1, x0, x1, x2, a, i, hf, hk, hi, hm, ht => by
  simp only [G.trivetref04_MayEntry.l0]
  by_cases hlt : i < a.length
  ·obtain ⟨x, hx⟩ : ∃ x, a[i]? = some x := ⟨_, List.getElem?_eq_getElem hlt⟩
   have d1 := drop_cons hx
   have hw : wrap64 ((i : Int) + 1) = ((i + 1 : Nat) : Int) := by unfold wrap64; omega
   have hxm := List.mem_of_getElem? hx
   have hfx := hf x hxm
   rw [if_pos (by omega : (i : Int) < (a.length : Int)), if_pos (by omega : (0 : Int) ≤ (i : Int)), rdT_eq hx, mayT_r k x (by omega) (ht x hxm), Option.bind_some, d1, List.all_cons]
   cases he : mayT x with
   | true =>
    rw [if_pos rfl, hw, mayE_l k x0 x1 x2 a (i + 1) (fun t h => by have := hf t h; omega) (by omega) (by omega) hm ht, Bool.true_and]
   | false => rw [if_neg (by simp), Bool.false_and, Bool.false_and]
  ·rw [if_neg (by omega), List.drop_of_length_le (by omega)]
   simp only [List.all_nil, Bool.true_and]
   unfold inB G.trivetref04_replica.f
   simp only [List.all_cons, List.all_nil, Bool.and_true]
   by_cases h0 : x0 = 1
   ·rw [if_pos h0, count_f, h0]
    simp only [beq_self_eq_true, Bool.true_and]
    by_cases h1 : 0 ≤ x1
    ·rw [if_pos h1, decide_eq_true h1, Option.bind_some]
     by_cases h4 : x1 < 5
     ·rw [decide_eq_true h4, decide_eq_true (by omega : x1 ≤ 4), if_pos rfl, Option.bind_some, Bool.true_and, Bool.true_and]
      cases (decide (0 ≤ x2) && decide (x2 ≤ 1099511627776)) with
      | true =>
       rw [if_pos rfl, Bool.true_and]
       by_cases h5 : (a.length : Int) ≥ 1
       ·rw [if_pos h5, decide_eq_true (by omega : 1 ≤ (a.length : Int)), Bool.true_and]
       ·rw [if_neg h5, decide_eq_false (by omega : ¬ 1 ≤ (a.length : Int)), Bool.false_and]
      | false => rw [if_neg (by simp), Bool.false_and]
     ·rw [decide_eq_false h4, decide_eq_false (by omega : ¬ x1 ≤ 4), if_neg (by simp)]
      simp
    ·rw [if_neg h1, decide_eq_false h1, Option.bind_some, if_neg (by simp)]
     simp
   ·rw [if_neg h0]
    have : (x0 == 1) = false := by simpa using h0
    rw [this, Bool.false_and]
theorem mayE_r (k : Nat) (x0 x1 x2 : Int) (a : List TxD) (hf : ∀ t ∈ a, mT t + a.length + 2 < k) (hk : a.length + 1 < k) (hm : a.length ≤ 9223372036854775807) (ht : ∀ t ∈ a, TxLs t) :
  G.trivetref04_MayEntry.f k x0 x1 x2 a = some (mayE x0 x1 x2 a) := by
 unfold G.trivetref04_MayEntry.f mayE
 by_cases h0 : x0 = 0
 ·rw [if_pos h0, if_pos h0, sameEn_r k x0 x1 x2 a 0 0 0 [] hf hk (by omega) (fun t h => by have := ht t h; unfold TxLs at this; unfold TxLe; omega), Option.bind_some]
 ·rw [if_neg h0, if_neg h0]
  have := mayE_l k x0 x1 x2 a 0 (fun t h => by have := hf t h; omega) (by omega) (by omega) hm ht
  rw [show ((0 : Nat) : Int) = 0 from rfl] at this
  rw [this, List.drop_zero]
  congr 1
  cases a.all mayT <;> simp
end Go.Proofs.Ytgmlpmdfkaadhaa.M
end

section
/- A number's bytes: one form, taken back; bytes behind strOfNums (out of XMForm). -/
namespace Go.Proofs.Ytgmlpmdfkaadhaa.M
open Go.RowKit Go.Proofs.YtgmlpmdfkaadhaaW.PrintWords Go.Proofs.YtgmlpmdfkaadhaaW.PrintLast Go.Proofs.YtgmlpmdfkaadhaaW.PrintMore Go.Proofs.Ytgmlpmdfkaadhaa.G
open Go.Lib (strOfNums_toList)
end Go.Proofs.Ytgmlpmdfkaadhaa.M
end

section
-- Written by a program of this session's (wip/gprint.py over the kit's printer).
namespace Go.Proofs.Ytgmlpmdfkaadhaa.G
open Go.RowKit Go.Proofs.YtgmlpmdfkaadhaaW.PrintWords Go.Proofs.YtgmlpmdfkaadhaaW.PrintLast Go.Proofs.YtgmlpmdfkaadhaaW.PrintMore
attribute [local go_sem] max2_int min2_int max_two min_two max_three min_three max_four min_four   -- for this text's walks alone
def record_fits.f (l0 : List Int) : Option (List Int × Int) := if (l0.length : Int) > 1048576 then (some (([] : List Int), 3)) else (some (l0, 0))
set_option maxHeartbeats 8000000 in
set_option maxRecDepth 100000 in
theorem record_fits.calls (P0_ : Nat → Prop) (u9000_ : Value) (l0 : List Int) (r1 : List Int) (r2 : Int) (w0 w : World) (hB : Below w0.heap.size w0 w) (ho0 : Kd.R (Kd.int .u8) 5 w w0.heap.size P0_ u9000_ l0) (h : record_fits.f l0 = some (r1, r2)) :
  Calls Try.prog 44 #[u9000_] w fun e w' => ∃ v0_ : Value, e = .returned (.tuple #[v0_, .int .i64 r2]) ∧ Kd.R (Kd.int .u8) 5 w' w0.heap.size (fun k_ => (P0_ k_ ∨ w.heap.size ≤ k_)) v0_ r1 ∧ Below w0.heap.size w0 w' ∧ Kept w w' (fun k_ => P0_ k_) := by
 have HO0 := Aside0.mk (show Kd.R (Kd.int .u8) 5 w w0.heap.size (fun k_ => (P0_ k_ ∨ w.heap.size ≤ k_)) u9000_ l0 from Kd.R_mono ho0 (fun k_ hk => (.inl hk)))
 have HK := Aside0.mk (Kept.refl w (fun k_ => P0_ k_))
 have HW0 := Aside0.mk hB.size
 have HB := Aside0.mk hB
 clear hB
 have H : (if (l0.length : Int) > 1048576 then (some (([] : List Int), 3)) else (some (l0, 0))) = some (r1, r2) := h
 clear h
 by_cases c2 : (l0.length : Int) > 1048576
 ·rw [if_pos c2] at H
  have c2b0 : decide (1048576 < (l0.length : Int)) = true := decide_eq_true c2
  have c2b1 : decide (1048576 < l0.length) = true := decide_eq_true (by omega)
  clear c2
  simp only [Option.some.injEq, Prod.mk.injEq] at H
  obtain ⟨rfl, rfl⟩ := H
  obtain ⟨Ao3, co3, eo3⟩ := Kd.R_slice HO0.out
  subst eo3
  go_enter Try.func44, Try.ntmps44
  go_wp2
  go_ret2
  exact ⟨_, by first | rfl | (simp [errW_none, errW_some] <;> rfl) | (simp [*, errW_none, errW_some] <;> rfl), by first | exact Kd.R_nil _ _ _ _ _ | exact Kd.N_nil _ _ _ _ _ | exact Kd.V_nil _ _ _ _ _ | exact Kd.Q_nil _ _ _ _ _ | exact Kd.S_nil _ _ _ _ _, stB HB.out, by repeat (first | (with_reducible first | exact HK.out | apply Kept.alloc | apply Kept.drewN | apply Kept.drew) | exact HK.out)⟩
 ·rw [if_neg c2] at H
  have c2b0 : decide (1048576 < (l0.length : Int)) = false := decide_eq_false c2
  have c2b1 : decide (1048576 < l0.length) = false := decide_eq_false (by omega)
  clear c2
  simp only [Option.some.injEq, Prod.mk.injEq] at H
  obtain ⟨rfl, rfl⟩ := H
  obtain ⟨Ao4, co4, eo4⟩ := Kd.R_slice HO0.out
  subst eo4
  go_enter Try.func44, Try.ntmps44
  go_wp2
  go_ret2
  exact ⟨_, by first | rfl | (simp [errW_none, errW_some] <;> rfl) | (simp [*, errW_none, errW_some] <;> rfl), stR HO0.out, stB HB.out, by repeat (first | (with_reducible first | exact HK.out | apply Kept.alloc | apply Kept.drewN | apply Kept.drew) | exact HK.out)⟩
end Go.Proofs.Ytgmlpmdfkaadhaa.G
end

section
/- The pen: bytes that grow. -/
attribute [local irreducible] Go.wpStill
namespace Go.Proofs.Ytgmlpmdfkaadhaa.M
open Go.RowKit Go.Proofs.YtgmlpmdfkaadhaaW.PrintWords Go.Proofs.YtgmlpmdfkaadhaaW.PrintLast Go.Proofs.YtgmlpmdfkaadhaaW.PrintMore Go.Proofs.Ytgmlpmdfkaadhaa.G
def IsPen (W : World) (base p : Nat) (l : List Int) : Prop := ∃ (A : Option Addr) (c : Nat), W.heap[p]? = some (.cells #[.slice A l.length c] 88) ∧ base ≤ p ∧ l.length ≤ c ∧ Kd.R (Kd.int .u8) 5 W base (fun i => i ≠ p) (.slice A l.length c) l
theorem IsPen.lt {W : World} {base p : Nat} {l : List Int} (h : IsPen W base p l) : p < W.heap.size := by
 obtain ⟨A, c, h1, _⟩ := h
 exact (Array.getElem?_eq_some_iff.1 h1).1
theorem IsPen.ge {W : World} {base p : Nat} {l : List Int} (h : IsPen W base p l) : base ≤ p := by
 obtain ⟨A, c, h1, h2, _⟩ := h
 exact h2
theorem IsPen.below {W W' : World} {base p : Nat} {l : List Int} (h : IsPen W base p l) (hb : Below W.heap.size W W') : IsPen W' base p l := by
 have hl := h.lt
 obtain ⟨A, c, h1, h2, h3, h4⟩ := h
 exact ⟨A, c, (hb.block p hl).trans h1, h2, h3, Kd.R_step h4 (fun k _ hlt => hb.block k hlt)⟩
theorem isPen_put {W : World} {base p : Nat} {l l' : List Int} {v : Value} (h : IsPen W base p l) {base' : Nat} {ok : Nat → Prop} (hv : Kd.R (Kd.int .u8) 5 W base' ok v l') (hp : p < base') : ∃ (A : Option Addr) (c : Nat), v = .slice A l'.length c ∧ IsPen (W.setCell ⟨p, 0, none⟩ (.slice A l'.length c)) base p l' := by
 obtain ⟨A0, c0, h1, hbp, _, _⟩ := h
 have hv2 := Kd.R_mono (Kd.R_bound hv) (fun k hk => (by have := hk.2.1; omega : k ≠ p))
 obtain ⟨A, c, rfl⟩ := Kd.R_slice hv2
 refine ⟨A, c, rfl, A, c, ?_, hbp, (Kd.R_reads' hv2).2.1, ?_⟩
 ·have := heap_same W ⟨p, 0, none⟩ (.slice A l'.length c) h1 rfl
  simpa using this
 ·exact Kd.R_lower (Kd.R_step hv2 (fun i hi _ => Below.heap_setCell W ⟨p, 0, none⟩ _ i hi)) (by omega)
def PenP (w0 w : World) (p : Nat) (l' : List Int) (e : Ending) (w' : World) : Prop := e = .returned (.tuple #[]) ∧ IsPen w' w0.heap.size p l' ∧ Below w0.heap.size w0 w' ∧ KeepS (fun i => i = p) w w'
set_option maxHeartbeats 1000000 in
theorem nums_is {w0 w : World} {p : Nat} {l : List Int} (hI : IsPen w w0.heap.size p l) (hB : Below w0.heap.size w0 w) (hp : w0.heap.size ≤ p) (B : Option Addr) (c1 : Nat) (ns : List Int) (hr : Kd.C (Kd.int .i64) w B ns.length ns) (ho : okI ns = true) (hs : l.length + 9 * ns.length < 140737488355328) :
  Calls Try.prog 63 #[.pointer (some ⟨p, 0, none⟩), .slice B ns.length c1] w fun e w' => PenP w0 w p (l ++ numsB ns) e w' := by
 have HI := Lib.hid hI; have HB := Lib.hid hB; have HP := Lib.hid hp
 obtain ⟨A, c, h1, _, h2, h3⟩ := hI
 have HN := Lib.hid (num_calls A c l B c1 ns w (Kd.R_reads' h3).2.2 h2 hr ho hs)
 have c0 : w.cell? ⟨p, 0, none⟩ = some (.slice A l.length c) := by simp [World.cell?, h1]
 obtain ⟨l2, hl2⟩ : ∃ l2, l ++ numsB ns = l2 := ⟨_, rfl⟩
 rw [hl2] at HN ⊢
 clear h1 h2 h3 hr ho hs hB hp hl2
 go_enter Try.func63, Try.ntmps63
 go_wp2_with fail
 refine HN.out.mono ?_
 rintro e w1 ⟨v, rfl, hv, hb⟩
 have HI1 := Lib.hid (HI.out.below hb)
 have HB1 := Lib.hid (HB.out.trans (hb.mono HB.out.size))
 have HKK := Lib.hid ((KeepS.of_below (fun i => i = p) hb).set (p := ⟨p, 0, none⟩) (.inl rfl))
 obtain ⟨A', c', rfl, hP⟩ := isPen_put HI1.out hv HI.out.lt
 have HPP := Lib.hid hP
 have d0 : w1.cell? ⟨p, 0, none⟩ = some (.slice A l.length c) := (hb.cell (p := ⟨p, 0, none⟩) HI.out.lt).trans c0
 have d1 : w1.frozen? ⟨p, 0, none⟩ = false := by
  obtain ⟨A2, c2, h4, _⟩ := HI1.out
  simp [World.frozen?, h4]
 clear hb hv hP c0
 go_wp2_with fail
 go_end0
 exact ⟨rfl, HPP.out, HB1.out.setCell (by exact HP.out) _, HKK.out _⟩
theorem many_is {w0 w : World} {p : Nat} {l : List Int} (hI : IsPen w w0.heap.size p l) (hB : Below w0.heap.size w0 w) (hp : w0.heap.size ≤ p) (n : Int) (ho : isI64 n) (hs : l.length + 9 < 140737488355328) :
  Calls Try.prog 62 #[.pointer (some ⟨p, 0, none⟩), .int .i64 n] w fun e w' => PenP w0 w p (l ++ numB n) e w' := by
 have HB2 := (Below.refl w.heap.size w).alloc (Nat.le_refl _) (.cells #[.int .i64 n] 2)
 have HN := Lib.hid (nums_is (hI.below HB2) (hB.alloc hB.size _) hp _ 1 [n] (C_lit w [n] (by simp)) (by simp [okI, ho]) (by simpa using hs))
 simp only [List.length_singleton, numsB, List.flatMap_cons, List.flatMap_nil, List.append_nil] at HN
 clear hI hB hp ho hs HB2
 go_enter Try.func62, Try.ntmps62
 go_wp2_with fail
 refine HN.out.mono ?_
 rintro e w1 ⟨rfl, h1, h2, h3⟩
 have H1 := Lib.hid h1; have H2 := Lib.hid h2
 have H3 := Lib.hid (((KeepS.refl (fun i => i = p) w).alloc (.cells #[.int .i64 n] 2)).trans h3)
 clear h1 h2 h3
 go_wp2_with fail
 go_end0
 exact ⟨rfl, H1.out, H2.out, H3.out⟩
set_option maxHeartbeats 1000000 in
theorem data_is {w0 w : World} {p : Nat} {l : List Int} (hI : IsPen w w0.heap.size p l) (hB : Below w0.heap.size w0 w) (hp : w0.heap.size ≤ p) (B : Option Addr) (c1 : Nat) (bs : List Int) (hr : Kd.C (Kd.int .u8) w B bs.length bs) (hc1 : bs.length ≤ c1) (hs : l.length + bs.length + 9 < 140737488355328) :
  Calls Try.prog 75 #[.pointer (some ⟨p, 0, none⟩), .slice B bs.length c1] w fun e w' => PenP w0 w p (l ++ numB bs.length ++ bs) e w' := by
 have HI := Lib.hid hI; have HB := Lib.hid hB; have HP := Lib.hid hp
 obtain ⟨A, c, h1, _, h2, h3⟩ := hI
 have hi : isI64 (bs.length : Int) := by unfold isI64; omega
 have hf : G.shape_Blob.f l bs = some (l ++ numB bs.length ++ bs) := by
  unfold G.shape_Blob.f G.shape_Num.f
  have e1 : okI [(bs.length : Int)] = true := by simp [okI, hi]
  rw [if_pos ⟨e1, by simp; omega⟩]
  have e2 := (numB_len hi).2
  simp only [Option.bind_some, numsB, List.flatMap_cons, List.flatMap_nil, List.append_nil]
  rw [if_pos (by rw [List.length_append]; omega)]
 have HN := Lib.hid (G.shape_Blob.calls A c l B c1 bs _ w (Kd.R_reads' h3).2.2 h2 hr hc1 hf)
 have c0 : w.cell? ⟨p, 0, none⟩ = some (.slice A l.length c) := by simp [World.cell?, h1]
 obtain ⟨l2, hl2⟩ : ∃ l2, l ++ numB bs.length ++ bs = l2 := ⟨_, rfl⟩
 rw [hl2] at HN ⊢
 clear h1 h2 h3 hr hs hB hp hi hf hc1 hl2
 go_enter Try.func75, Try.ntmps75
 go_wp2_with fail
 refine HN.out.mono ?_
 rintro e w1 ⟨v, rfl, hv, hb⟩
 have HI1 := Lib.hid (HI.out.below hb)
 have HB1 := Lib.hid (HB.out.trans (hb.mono HB.out.size))
 have HKK := Lib.hid ((KeepS.of_below (fun i => i = p) hb).set (p := ⟨p, 0, none⟩) (.inl rfl))
 obtain ⟨A', c', rfl, hP⟩ := isPen_put HI1.out hv HI.out.lt
 have HPP := Lib.hid hP
 have d0 : w1.cell? ⟨p, 0, none⟩ = some (.slice A l.length c) := (hb.cell (p := ⟨p, 0, none⟩) HI.out.lt).trans c0
 have d1 : w1.frozen? ⟨p, 0, none⟩ = false := by
  obtain ⟨A2, c2, h4, _⟩ := HI1.out
  simp [World.frozen?, h4]
 clear hb hv hP c0
 go_wp2_with fail
 go_end0
 exact ⟨rfl, HPP.out, HB1.out.setCell (by exact HP.out) _, HKK.out _⟩
theorem newPen_is (A : Option Addr) (c : Nat) (l : List Int) (w : World) (hr : Kd.C (Kd.int .u8) w A l.length l) (hc : l.length ≤ c) (hl : l.length < 140737488355328) :
  Calls Try.prog 42 #[.slice A l.length c] w fun e w' => ∃ p, e = .returned (.pointer (some ⟨p, 0, none⟩)) ∧ IsPen w' w.heap.size p l ∧ Below w.heap.size w w' := by
 have HN := Lib.hid (clone_calls A c l w hr hc hl)
 clear hr hc hl
 go_enter Try.func42, Try.ntmps42
 go_wp2_with fail
 refine HN.out.mono ?_
 rintro e w1 ⟨v, rfl, hv, hb⟩
 have HB1 := Lib.hid hb
 have hv2 := Kd.R_mono (Kd.R_bound hv) (fun k hk => (by have := hk.2.2.1; omega : k ≠ w1.heap.size))
 obtain ⟨A', c', rfl⟩ := Kd.R_slice hv2
 have HV := Lib.hid hv2
 clear hb hv hv2
 go_wp2_with fail
 go_ret
 refine ⟨w1.heap.size, rfl, ⟨A', c', heap_alloc_new w1 _, HB1.out.size, (Kd.R_reads' HV.out).2.1, ?_⟩, HB1.out.alloc HB1.out.size _⟩
 exact Kd.R_step HV.out (fun k _ hlt => Below.heap_alloc w1 _ k hlt)
end Go.Proofs.Ytgmlpmdfkaadhaa.M
end

section
/- The pen writes keys and transactions. -/
attribute [local irreducible] Go.wpStill
namespace Go.Proofs.Ytgmlpmdfkaadhaa.M
open Go.RowKit Go.Proofs.YtgmlpmdfkaadhaaW.PrintWords Go.Proofs.YtgmlpmdfkaadhaaW.PrintLast Go.Proofs.YtgmlpmdfkaadhaaW.PrintMore Go.Proofs.Ytgmlpmdfkaadhaa.G
def keyB (k : KeyD) : List Int := numsB [k.f0, k.f1]
def keysB (l : List KeyD) : List Int := numB l.length ++ l.flatMap keyB
def txB (t : TxD) : List Int := numsB [t.f0, t.f1] ++ (numB t.f2.length ++ t.f2) ++ numB t.f3.length ++ numsB t.f3 ++ keysB t.f4 ++ keysB t.f5
def entB (k f n : Int) (l : List TxD) : List Int := if k = 0 then numB 0 else numB k ++ numsB [f, n] ++ numB l.length ++ l.flatMap txB
def okK (k : KeyD) : Bool := decide (-2147483648 ≤ k.f0 ∧ k.f0 ≤ 2147483647 ∧ isI64 k.f1)
def okT (t : TxD) : Bool := decide (isI64 t.f0) && (decide (isI64 t.f1) && (okB t.f2 && (okI t.f3 && (t.f4.all okK && t.f5.all okK))))
def okE (k f n : Int) (l : List TxD) : Bool := decide (isI64 k) && (decide (isI64 f) && (decide (isI64 n) && l.all okT))
theorem okK_i (k : KeyD) (h : okK k = true) : okI [k.f0, k.f1] = true := by
 unfold okK at h
 have h1 := of_decide_eq_true h
 have h2 : isI64 k.f0 := by unfold isI64; omega
 simp [okI, h2, h1.2.2]
theorem numsB2_len {x y : Int} (h : okI [x, y] = true) : (numsB [x, y]).length ≤ 18 := by
 have := numsB_len h
 simpa using this
theorem keyB_len {k : KeyD} (h : okK k = true) : (keyB k).length ≤ 18 := numsB2_len (okK_i k h)
theorem flat_len {α : Type} (f : α → List Int) (m : Nat) : ∀ l : List α, (∀ x ∈ l, (f x).length ≤ m) → (l.flatMap f).length ≤ m * l.length
 | [], _ => by simp
 | a :: l, h => by
  rw [List.flatMap_cons, List.length_append, List.length_cons, Nat.mul_succ]
  have := h a List.mem_cons_self
  have := flat_len f m l (fun x hx => h x (List.mem_cons_of_mem _ hx))
  omega
theorem keysB_len {l : List KeyD} (h : l.all okK = true) (hl : l.length ≤ 1000000) : (keysB l).length ≤ 9 + 18 * l.length := by
 unfold keysB
 rw [List.length_append]
 have h1 := (numB_len (n := (l.length : Int)) (by unfold isI64; omega)).2
 have h2 := flat_len keyB 18 l (fun x hx => keyB_len (List.all_eq_true.1 h x hx))
 omega
def KyL (w0 w : World) (p : Nat) (l : List Int) (ks : List KeyD) (i : Value) (wr : World) : Prop := ∃ j : Nat, i = .int .i64 j ∧ j ≤ ks.length ∧ IsPen wr w0.heap.size p (l ++ numB ks.length ++ (ks.take j).flatMap keyB) ∧ Below w0.heap.size w0 wr ∧ KeepS (fun i => i = p) w wr
set_option maxHeartbeats 1000000 in
theorem penKeys_is {w0 w : World} {p : Nat} {l : List Int} (hI : IsPen w w0.heap.size p l) (hB : Below w0.heap.size w0 w) (hp : w0.heap.size ≤ p) (B : Option Addr) (c1 : Nat) (ks : List KeyD) (hr : Kd.C G.k54 w0 B ks.length ks) (ho : ks.all okK = true) (hk : ks.length ≤ 1000000) (hs : l.length + 9 + 18 * ks.length < 140737488355328) :
  Calls Try.prog 76 #[.pointer (some ⟨p, 0, none⟩), .slice B ks.length c1] w fun e w' => PenP w0 w p (l ++ keysB ks) e w' := by
 have HR := Lib.hid hr; have HO := Lib.hid ho; have HP := Lib.hid hp; have HS := Lib.hid hs
 have HM := Lib.hid (many_is hI hB hp ks.length (by unfold isI64; omega) (by omega))
 have hnl := (numB_len (n := (ks.length : Int)) (by unfold isI64; omega)).2
 have HNL := Lib.hid hnl
 clear hI hB hr ho hp hs hnl
 go_enter Try.func76, Try.ntmps76
 go_wp2_with fail
 refine HM.out.mono ?_
 rintro e w1 ⟨rfl, h1, h2, h3⟩
 have H1 := Lib.hid h1; have H2 := Lib.hid h2; have H3 := Lib.hid h3
 clear h1 h2 h3 HM
 go_wp2_with fail
 go_loopw [14] (fun i wr => KyL w0 w p l ks i wr) (fun i _ => ks.length - (intOf i).toNat)
 case atStart => exact ⟨0, rfl, Nat.zero_le _, by simpa using H1.out, H2.out, H3.out⟩
 case round =>
  obtain ⟨j, rfl, hj, hI, hB, hK⟩ := hrel
  have HI := Lib.hid hI; have HB := Lib.hid hB; have HK := Lib.hid hK
  clear hI hB hK
  by_cases hlt : j < ks.length
  ·obtain ⟨x, hx⟩ : ∃ x, ks[j]? = some x := ⟨_, List.getElem?_eq_getElem hlt⟩
   obtain ⟨ad, rfl, x0, x1⟩ := keyd_get (Kd.C_below HR.out HB.out) hx
   have HX := Lib.hid (show ks.take (j + 1) = ks.take j ++ [x] by rw [List.take_add_one, hx]; rfl)
   have HOX := Lib.hid (List.all_eq_true.1 HO.out x (List.mem_of_getElem? hx))
   have hwx : IntKind.i64.wrap x.f0 = x.f0 := by
    have := HOX.out
    unfold okK at this
    have := of_decide_eq_true this
    rw [IntKind.wrap_i64]; omega
   have hbx := heap_alloc_new wr (.cells #[.int .i32 x.f0, .int .i64 x.f1] 54)
   have HB2 := Lib.hid (HB.out.alloc HB.out.size (.cells #[.int .i32 x.f0, .int .i64 x.f1] 54))
   have HI2 := Lib.hid (HI.out.below ((Below.refl _ wr).alloc (Nat.le_refl _) (.cells #[.int .i32 x.f0, .int .i64 x.f1] 54)))
   have HK2 := Lib.hid (HK.out.alloc (.cells #[.int .i32 x.f0, .int .i64 x.f1] 54))
   have HBX := Lib.hid hbx
   clear hx hbx
   go_wp2_with fail
   obtain ⟨w3, hw3⟩ : ∃ w3, wr.alloc (.cells #[.int .i32 x.f0, .int .i64 x.f1] 54) = w3 := ⟨_, rfl⟩
   rw [hw3] at HB2 HI2 HK2 HBX ⊢
   have b0 : w3.cell? ⟨wr.heap.size, 0, none⟩ = some (.int .i32 x.f0) := by simp [World.cell?, HBX.out]
   have b1 : w3.cell? ⟨wr.heap.size, 1, none⟩ = some (.int .i64 x.f1) := by simp [World.cell?, HBX.out]
   clear hw3 x0 x1
   have hl : Kd.C (Kd.int .i64) (w3.alloc (.cells #[.int .i64 x.f0, .int .i64 x.f1] 2)).drew (some ⟨w3.heap.size, 0, none⟩) 2 [x.f0, x.f1] := Kd.C_drew (C_lit w3 [x.f0, x.f1] (by simp))
   have HN := Lib.hid (nums_is (HI2.out.below (((Below.refl _ w3).alloc (Nat.le_refl _) (.cells #[.int .i64 x.f0, .int .i64 x.f1] 2)).drew)) (HB2.out.alloc HB2.out.size _).drew HP.out _ 2 [x.f0, x.f1] hl (okK_i x HOX.out) (by
    have h1 := flat_len keyB 18 (ks.take j) (fun y hy => keyB_len (List.all_eq_true.1 HO.out y (List.mem_of_mem_take hy)))
    have h2 := HNL.out; have h3 := HS.out
    rw [List.length_take] at h1
    simp only [List.length_append, List.length_cons, List.length_nil]
    omega))
   have HPL := Lib.hid (show wr.heap.size < w3.heap.size ∧ wr.heap.size ≠ p from ⟨(Array.getElem?_eq_some_iff.1 HBX.out).1, by have := HI.out.lt; omega⟩)
   clear hl
   go_region_held3 (fun w' => w'.cell? ⟨wr.heap.size, 0, none⟩ = some (.int .i32 x.f0) ∧ w'.cell? ⟨wr.heap.size, 1, none⟩ = some (.int .i64 x.f1)) (go_keep) (((refine HN.out.mono ?_; rintro e w5 ⟨rfl, h1, h2, h3⟩; have H5 := Lib.hid h1; have HB5 := Lib.hid h2; have HK5 := Lib.hid ((HK2.out.alloc (.cells #[.int .i64 x.f0, .int .i64 x.f1] 2)).drew.trans h3); have qh : w5.cell? ⟨wr.heap.size, 0, none⟩ = some (.int .i32 x.f0) := (h3.cell (p := ⟨wr.heap.size, 0, none⟩) (by have := HPL.out; simp; omega) (by exact HPL.out.2)).trans (by go_simp); have qh2 : w5.cell? ⟨wr.heap.size, 1, none⟩ = some (.int .i64 x.f1) := (h3.cell (p := ⟨wr.heap.size, 1, none⟩) (by have := HPL.out; simp; omega) (by exact HPL.out.2)).trans (by go_simp); clear h1 h2 h3)))
   clear qh qh2
   go_wp2_with fail
   go_roundw
   case rel =>
    refine ⟨j + 1, by go_num, hlt, ?_, HB5.out, HK5.out⟩
    have h1 := H5.out
    rw [HX.out, List.flatMap_append, List.flatMap_cons, List.flatMap_nil, List.append_nil, ← List.append_assoc]
    exact h1
   case measure => simp [intOf]; omega
  ·have hjn : j = ks.length := by omega
   have HF := Lib.hid (show IsPen wr w0.heap.size p (l ++ keysB ks) by
    have := HI.out
    rw [hjn, List.take_length, List.append_assoc] at this
    exact this)
   clear hjn
   go_wp2_with fail
   go_end0
   exact ⟨rfl, HF.out, HB.out, HK.out⟩
end Go.Proofs.Ytgmlpmdfkaadhaa.M
end

section
/- The pen writes a transaction. -/
attribute [local irreducible] Go.wpStill
namespace Go.Proofs.Ytgmlpmdfkaadhaa.M
open Go.RowKit Go.Proofs.YtgmlpmdfkaadhaaW.PrintWords Go.Proofs.YtgmlpmdfkaadhaaW.PrintLast Go.Proofs.YtgmlpmdfkaadhaaW.PrintMore Go.Proofs.Ytgmlpmdfkaadhaa.G
def TxBox (W : World) (b : Nat) (x : TxD) (A2 : Option Addr) (c2 : Nat) (A3 : Option Addr) (c3 : Nat) (A4 : Option Addr) (c4 : Nat) (A5 : Option Addr) (c5 : Nat) : Prop := W.heap[b]? = some (.cells #[.int .i64 x.f0, .int .i64 x.f1, .slice A2 x.f2.length c2, .slice A3 x.f3.length c3, .slice A4 x.f4.length c4, .slice A5 x.f5.length c5] 32)
theorem TxBox.cell {W : World} {b : Nat} {x : TxD} {A2 A3 A4 A5 : Option Addr} {c2 c3 c4 c5 : Nat} (h : TxBox W b x A2 c2 A3 c3 A4 c4 A5 c5) : W.cell? ⟨b, 0, none⟩ = some (.int .i64 x.f0) ∧ W.cell? ⟨b, 1, none⟩ = some (.int .i64 x.f1) ∧ W.cell? ⟨b, 2, none⟩ = some (.slice A2 x.f2.length c2) ∧ W.cell? ⟨b, 3, none⟩ = some (.slice A3 x.f3.length c3) ∧ W.cell? ⟨b, 4, none⟩ = some (.slice A4 x.f4.length c4) ∧ W.cell? ⟨b, 5, none⟩ = some (.slice A5 x.f5.length c5) ∧ b < W.heap.size := by
 unfold TxBox at h
 exact ⟨by simp [World.cell?, h], by simp [World.cell?, h], by simp [World.cell?, h], by simp [World.cell?, h], by simp [World.cell?, h], by simp [World.cell?, h], (Array.getElem?_eq_some_iff.1 h).1⟩
theorem TxBox.keep {W W' : World} {b p : Nat} {x : TxD} {A2 A3 A4 A5 : Option Addr} {c2 c3 c4 c5 : Nat} (h : TxBox W b x A2 c2 A3 c3 A4 c4 A5 c5) (hk : KeepS (fun i => i = p) W W') (hb : b ≠ p) : TxBox W' b x A2 c2 A3 c3 A4 c4 A5 c5 := (hk.block b h.cell.2.2.2.2.2.2 hb).trans h
theorem okT_parts {x : TxD} (h : okT x = true) : okI [x.f0, x.f1] = true ∧ okB x.f2 = true ∧ okI x.f3 = true ∧ x.f4.all okK = true ∧ x.f5.all okK = true := by
 unfold okT at h
 simp only [Bool.and_eq_true, decide_eq_true_eq] at h
 obtain ⟨h1, h2, h3, h4, h5, h6⟩ := h
 exact ⟨by simp [okI, h1, h2], h3, h4, h5, h6⟩
theorem mayT_parts {x : TxD} (h : mayT x = true) : x.f2.length ≤ 512 ∧ x.f3.length ≤ 8 ∧ x.f4.length ≤ 16 ∧ x.f5.length ≤ 16 := by
 unfold mayT mayK at h
 simp only [Bool.and_eq_true, decide_eq_true_eq] at h
 exact ⟨h.2.1, h.2.2.1, h.2.2.2.1.1, h.2.2.2.2.1⟩
theorem txB_len {x : TxD} (h : okT x = true) (hm : mayT x = true) : (txB x).length ≤ 1300 := by
 obtain ⟨h1, h2, h3, h4, h5⟩ := okT_parts h
 obtain ⟨m2, m3, m4, m5⟩ := mayT_parts hm
 have e1 := numsB2_len h1
 have e2 := (numB_len (n := (x.f2.length : Int)) (by unfold isI64; omega)).2
 have e3 := (numB_len (n := (x.f3.length : Int)) (by unfold isI64; omega)).2
 have e4 := numsB_len h3
 have e5 := keysB_len h4 (by omega)
 have e6 := keysB_len h5 (by omega)
 unfold txB
 simp only [List.length_append]
 omega
set_option maxHeartbeats 2000000 in
theorem penTxn_is {w0 w : World} {p : Nat} {l : List Int} (hI : IsPen w w0.heap.size p l) (hB : Below w0.heap.size w0 w) (hp : w0.heap.size ≤ p) (x : TxD) {A2 A3 A4 A5 : Option Addr} {c2 c3 c4 c5 : Nat} (hX : TxC w0 x A2 c2 A3 c3 A4 c4 A5 c5) (hok : okT x = true) (hm : mayT x = true) (hs : l.length + 2000 < 140737488355328) :
  Calls Try.prog 64 #[.pointer (some ⟨p, 0, none⟩), .agg #[.int .i64 x.f0, .int .i64 x.f1, .slice A2 x.f2.length c2, .slice A3 x.f3.length c3, .slice A4 x.f4.length c4, .slice A5 x.f5.length c5]] w fun e w' => PenP w0 w p (l ++ txB x) e w' := by
 obtain ⟨o1, o2, o3, o4, o5⟩ := okT_parts hok
 obtain ⟨m2, m3, m4, m5⟩ := mayT_parts hm
 have e1 := numsB2_len o1
 have e2 := (numB_len (n := (x.f2.length : Int)) (by unfold isI64; omega)).2
 have e3 := (numB_len (n := (x.f3.length : Int)) (by unfold isI64; omega)).2
 have e4 := numsB_len o3
 have e5 := keysB_len o4 (by omega)
 have e6 := keysB_len o5 (by omega)
 have i2 : isI64 (x.f3.length : Int) := by unfold isI64; omega
 have HE := Lib.hid (And.intro e1 (And.intro e2 (And.intro e3 (And.intro e4 (And.intro e5 e6)))))
 have HO := Lib.hid (And.intro o1 (And.intro o2 (And.intro o3 (And.intro o4 o5))))
 have HM := Lib.hid (And.intro m2 (And.intro m3 (And.intro m4 m5)))
 have HI2 := Lib.hid i2
 have HP := Lib.hid hp; have HS := Lib.hid hs
 have HX := Lib.hid hX
 have HNE := Lib.hid (show w.heap.size ≠ p by have := hI.lt; omega)
 have H0 := Lib.hid (hI.below ((Below.refl _ w).alloc (Nat.le_refl _) (.cells #[.int .i64 x.f0, .int .i64 x.f1, .slice A2 x.f2.length c2, .slice A3 x.f3.length c3, .slice A4 x.f4.length c4, .slice A5 x.f5.length c5] 32)))
 have HB0 := Lib.hid (hB.alloc hB.size (.cells #[.int .i64 x.f0, .int .i64 x.f1, .slice A2 x.f2.length c2, .slice A3 x.f3.length c3, .slice A4 x.f4.length c4, .slice A5 x.f5.length c5] 32))
 have HK0 := Lib.hid ((KeepS.refl (fun i => i = p) w).alloc (.cells #[.int .i64 x.f0, .int .i64 x.f1, .slice A2 x.f2.length c2, .slice A3 x.f3.length c3, .slice A4 x.f4.length c4, .slice A5 x.f5.length c5] 32))
 have HT0 := Lib.hid (show TxBox (w.alloc (.cells #[.int .i64 x.f0, .int .i64 x.f1, .slice A2 x.f2.length c2, .slice A3 x.f3.length c3, .slice A4 x.f4.length c4, .slice A5 x.f5.length c5] 32)) w.heap.size x A2 c2 A3 c3 A4 c4 A5 c5 from heap_alloc_new w _)
 clear hI hB hp hX hok hm hs o1 o2 o3 o4 o5 m2 m3 m4 m5 e1 e2 e3 e4 e5 e6 i2
 go_enter Try.func64, Try.ntmps64
 go_wp2_with fail
 obtain ⟨b, hb⟩ : ∃ b, w.heap.size = b := ⟨_, rfl⟩
 obtain ⟨v0, hv0⟩ : ∃ v0, w.alloc (.cells #[.int .i64 x.f0, .int .i64 x.f1, .slice A2 x.f2.length c2, .slice A3 x.f3.length c3, .slice A4 x.f4.length c4, .slice A5 x.f5.length c5] 32) = v0 := ⟨_, rfl⟩
 rw [hv0] at H0 HB0 HK0 HT0 ⊢
 rw [hb] at HNE HT0 ⊢
 clear hb hv0
 obtain ⟨d0, d1, d2, d3, d4, d5, dz⟩ := HT0.out.cell
 have HD := Lib.hid (show Below v0.heap.size v0 (v0.alloc (.cells #[.int .i64 x.f0, .int .i64 x.f1] 2)).drew from ((Below.refl _ v0).alloc (Nat.le_refl _) (.cells #[.int .i64 x.f0, .int .i64 x.f1] 2)).drew)
 have HN := Lib.hid (nums_is (H0.out.below HD.out) ((HB0.out.alloc HB0.out.size _).drew) HP.out _ 2 [x.f0, x.f1] (Kd.C_drew (C_lit v0 [x.f0, x.f1] (by simp))) HO.out.1 (by have := HS.out; simp only [List.length_append, List.length_cons, List.length_nil]; omega))
 go_region_held3 (fun w' => w'.cell? ⟨b, 0, none⟩ = some (.int .i64 x.f0) ∧ w'.cell? ⟨b, 1, none⟩ = some (.int .i64 x.f1)) (go_keep) (((refine HN.out.mono ?_; rintro e v1 ⟨rfl, h1, h2, h3⟩; have H1 := Lib.hid h1; have HB1 := Lib.hid h2; have HK1 := Lib.hid (((HK0.out.alloc (.cells #[.int .i64 x.f0, .int .i64 x.f1] 2)).drew).trans h3); have HT1 := Lib.hid (HT0.out.keep ((((KeepS.refl (fun i => i = p) v0).alloc (.cells #[.int .i64 x.f0, .int .i64 x.f1] 2)).drew).trans h3) HNE.out); clear h1 h2 h3; have qh0 : v1.cell? ⟨b, 0, none⟩ = some (.int .i64 x.f0) := HT1.out.cell.1; have qh1 : v1.cell? ⟨b, 1, none⟩ = some (.int .i64 x.f1) := HT1.out.cell.2.1)))
 clear HN HD d0 d1 d2 d3 d4 d5 dz qh0 qh1
 obtain ⟨d0, d1, d2, d3, d4, d5, dz⟩ := HT1.out.cell
 have HD := Lib.hid (show Below v1.heap.size v1 v1.drew from (Below.refl v1.heap.size v1).drew)
 have HN := Lib.hid (data_is (H1.out.below HD.out) HB1.out.drew HP.out _ c2 x.f2 (Kd.C_below HX.out.g2 HB1.out.drew) HX.out.l2 (by have := HS.out; have := HE.out; have := HM.out; simp only [List.length_append]; omega))
 go_wp2_with fail
 go_region_held3 (fun w' => w'.cell? ⟨b, 2, none⟩ = some (.slice A2 x.f2.length c2)) (go_keep) (((refine HN.out.mono ?_; rintro e v2 ⟨rfl, h1, h2, h3⟩; have H2 := Lib.hid h1; have HB2 := Lib.hid h2; have HK2 := Lib.hid ((HK1.out.drew).trans h3); have HT2 := Lib.hid (HT1.out.keep (((KeepS.refl (fun i => i = p) v1).drew).trans h3) HNE.out); clear h1 h2 h3; have qh2 : v2.cell? ⟨b, 2, none⟩ = some (.slice A2 x.f2.length c2) := HT2.out.cell.2.2.1)))
 clear HN HD d0 d1 d2 d3 d4 d5 dz qh2
 obtain ⟨d0, d1, d2, d3, d4, d5, dz⟩ := HT2.out.cell
 have HD := Lib.hid (show Below v2.heap.size v2 v2.drew from (Below.refl v2.heap.size v2).drew)
 have HN := Lib.hid (many_is (H2.out.below HD.out) HB2.out.drew HP.out x.f3.length HI2.out (by have := HS.out; have := HE.out; have := HM.out; simp only [List.length_append]; omega))
 go_wp2_with fail
 go_region_held3 (fun w' => w'.cell? ⟨b, 3, none⟩ = some (.slice A3 x.f3.length c3)) (go_keep) (((refine HN.out.mono ?_; rintro e v3 ⟨rfl, h1, h2, h3⟩; have H3 := Lib.hid h1; have HB3 := Lib.hid h2; have HK3 := Lib.hid ((HK2.out.drew).trans h3); have HT3 := Lib.hid (HT2.out.keep (((KeepS.refl (fun i => i = p) v2).drew).trans h3) HNE.out); clear h1 h2 h3; have qh3 : v3.cell? ⟨b, 3, none⟩ = some (.slice A3 x.f3.length c3) := HT3.out.cell.2.2.2.1)))
 clear HN HD d0 d1 d2 d3 d4 d5 dz qh3
 obtain ⟨d0, d1, d2, d3, d4, d5, dz⟩ := HT3.out.cell
 have HD := Lib.hid (show Below v3.heap.size v3 v3.drew from (Below.refl v3.heap.size v3).drew)
 have HN := Lib.hid (nums_is (H3.out.below HD.out) HB3.out.drew HP.out _ c3 x.f3 (Kd.C_below HX.out.g3 HB3.out.drew) HO.out.2.2.1 (by have := HS.out; have := HE.out; have := HM.out; simp only [List.length_append]; omega))
 go_wp2_with fail
 go_region_held3 (fun w' => w'.cell? ⟨b, 3, none⟩ = some (.slice A3 x.f3.length c3)) (go_keep) (((refine HN.out.mono ?_; rintro e v4 ⟨rfl, h1, h2, h3⟩; have H4 := Lib.hid h1; have HB4 := Lib.hid h2; have HK4 := Lib.hid ((HK3.out.drew).trans h3); have HT4 := Lib.hid (HT3.out.keep (((KeepS.refl (fun i => i = p) v3).drew).trans h3) HNE.out); clear h1 h2 h3; have qh3 : v4.cell? ⟨b, 3, none⟩ = some (.slice A3 x.f3.length c3) := HT4.out.cell.2.2.2.1)))
 clear HN HD d0 d1 d2 d3 d4 d5 dz qh3
 obtain ⟨d0, d1, d2, d3, d4, d5, dz⟩ := HT4.out.cell
 go_wp2_with fail
 refine (penKeys_is H4.out HB4.out HP.out _ c4 x.f4 HX.out.g4 HO.out.2.2.2.1 (by have := HM.out; omega) (by have := HS.out; have := HE.out; have := HM.out; simp only [List.length_append]; omega)).mono ?_
 rintro e v5 ⟨rfl, h1, h2, h3⟩
 have H5 := Lib.hid h1; have HB5 := Lib.hid h2; have HK5 := Lib.hid (HK4.out.trans h3); have HT5 := Lib.hid (HT4.out.keep h3 HNE.out)
 clear h1 h2 h3 d0 d1 d2 d3 d4 d5 dz
 obtain ⟨d0, d1, d2, d3, d4, d5, dz⟩ := HT5.out.cell
 go_wp2_with fail
 refine (penKeys_is H5.out HB5.out HP.out _ c5 x.f5 HX.out.g5 HO.out.2.2.2.2 (by have := HM.out; omega) (by have := HS.out; have := HE.out; have := HM.out; simp only [List.length_append]; omega)).mono ?_
 rintro e v6 ⟨rfl, h1, h2, h3⟩
 have H6 := Lib.hid h1; have HB6 := Lib.hid h2; have HK6 := Lib.hid (HK5.out.trans h3); have HT6 := Lib.hid (HT5.out.keep h3 HNE.out)
 clear h1 h2 h3 d0 d1 d2 d3 d4 d5 dz
 go_wp2_with fail
 go_end0
 refine ⟨rfl, ?_, HB6.out, HK6.out⟩
 have := H6.out
 unfold txB
 simp only [List.append_assoc] at this ⊢
 exact this
end Go.Proofs.Ytgmlpmdfkaadhaa.M
end

section
/- The pen writes an entry. -/
attribute [local irreducible] Go.wpStill
namespace Go.Proofs.Ytgmlpmdfkaadhaa.M
open Go.RowKit Go.Proofs.YtgmlpmdfkaadhaaW.PrintWords Go.Proofs.YtgmlpmdfkaadhaaW.PrintLast Go.Proofs.YtgmlpmdfkaadhaaW.PrintMore Go.Proofs.Ytgmlpmdfkaadhaa.G
theorem EnBox.keep {W W' : World} {b p : Nat} {k f n : Int} {A : Option Addr} {m c : Nat} (h : EnBox W b k f n A m c) (hk : KeepS (fun i => i = p) W W') (hb : b ≠ p) : EnBox W' b k f n A m c := (hk.block b h.cell.2.2.2.2 hb).trans h
theorem mayE_one {k f n : Int} {l : List TxD} (h : mayE k f n l = true) (hk : k ≠ 0) : k = 1 ∧ l.length ≤ 16 ∧ l.all mayT = true := by
 unfold mayE at h
 rw [if_neg hk] at h
 simp only [Bool.and_eq_true, beq_iff_eq] at h
 obtain ⟨h1, _, _, h4, h5⟩ := h
 unfold inB at h4
 simp only [List.all_cons, List.all_nil, Bool.and_true, Bool.and_eq_true, decide_eq_true_eq] at h4
 exact ⟨h1, by omega, h5⟩
theorem okE_parts {k f n : Int} {l : List TxD} (h : okE k f n l = true) : isI64 k ∧ okI [f, n] = true ∧ l.all okT = true := by
 unfold okE at h
 simp only [Bool.and_eq_true, decide_eq_true_eq] at h
 exact ⟨h.1, by simp [okI, h.2.1, h.2.2.1], h.2.2.2⟩
theorem entB_len {k f n : Int} {l : List TxD} (h : okE k f n l = true) (hm : mayE k f n l = true) : (entB k f n l).length ≤ 25000 := by
 obtain ⟨h1, h2, h3⟩ := okE_parts h
 unfold entB
 by_cases hk : k = 0
 ·rw [if_pos hk]
  have := (numB_len (n := 0) (by decide)).2
  omega
 ·obtain ⟨_, h5, h6⟩ := mayE_one hm hk
  rw [if_neg hk]
  have e1 := (numB_len h1).2
  have e2 := numsB2_len h2
  have e3 := (numB_len (n := (l.length : Int)) (by unfold isI64; omega)).2
  have e4 := flat_len txB 1300 l (fun x hx => txB_len (List.all_eq_true.1 h3 x hx) (List.all_eq_true.1 h6 x hx))
  simp only [List.length_append]
  omega
theorem TxAt.below {w w' : World} {p : Addr} {x : TxD} {A2 A3 A4 A5 : Option Addr} {c2 c3 c4 c5 : Nat} (h : TxAt w p x A2 c2 A3 c3 A4 c4 A5 c5) (hb : Below w.heap.size w w') : TxAt w' p x A2 c2 A3 c3 A4 c4 A5 c5 := by
 have hz : p.block < w.heap.size := World.block_lt_of_cell? _ _ h.e0
 exact ⟨(hb.cell (p := p) hz).trans h.e0, (hb.cell (p := ⟨p.block, _, none⟩) hz).trans h.e1, (hb.cell (p := ⟨p.block, _, none⟩) hz).trans h.e2, (hb.cell (p := ⟨p.block, _, none⟩) hz).trans h.e3, (hb.cell (p := ⟨p.block, _, none⟩) hz).trans h.e4, (hb.cell (p := ⟨p.block, _, none⟩) hz).trans h.e5⟩
def EnL (w0 w : World) (p : Nat) (l0 : List Int) (l : List TxD) (i : Value) (wr : World) : Prop := ∃ j : Nat, i = .int .i64 j ∧ j ≤ l.length ∧ IsPen wr w0.heap.size p (l0 ++ (l.take j).flatMap txB) ∧ Below w0.heap.size w0 wr ∧ KeepS (fun i => i = p) w wr
set_option maxHeartbeats 2000000 in
theorem penEntry_is {w0 w : World} {p : Nat} {l0 : List Int} (hI : IsPen w w0.heap.size p l0) (hB : Below w0.heap.size w0 w) (hp : w0.heap.size ≤ p) (k f n : Int) (A : Option Addr) (c : Nat) (l : List TxD) (hC : Kd.C G.k32 w0 A l.length l) (hok : okE k f n l = true) (hm : mayE k f n l = true) (hs : l0.length + 30000 < 140737488355328) :
  Calls Try.prog 43 #[.pointer (some ⟨p, 0, none⟩), .agg #[.int .i64 k, .int .i64 f, .int .i64 n, .slice A l.length c]] w fun e w' => PenP w0 w p (l0 ++ entB k f n l) e w' := by
 obtain ⟨o1, o2, o3⟩ := okE_parts hok
 have e1 := (numB_len o1).2
 have e2 := numsB2_len o2
 have HE := Lib.hid (And.intro e1 e2)
 have HO := Lib.hid (And.intro o1 (And.intro o2 o3))
 have HM := Lib.hid hm
 have HC := Lib.hid hC
 have HP := Lib.hid hp; have HS := Lib.hid hs
 have hlm : l.length ≤ 9223372036854775807 := hC.2.1
 have HNE := Lib.hid (show w.heap.size ≠ p by have := hI.lt; omega)
 have H0 := Lib.hid (hI.below ((Below.refl _ w).alloc (Nat.le_refl _) (.cells #[.int .i64 k, .int .i64 f, .int .i64 n, .slice A l.length c] 36)))
 have HB0 := Lib.hid (hB.alloc hB.size (.cells #[.int .i64 k, .int .i64 f, .int .i64 n, .slice A l.length c] 36))
 have HK0 := Lib.hid ((KeepS.refl (fun i => i = p) w).alloc (.cells #[.int .i64 k, .int .i64 f, .int .i64 n, .slice A l.length c] 36))
 have HT0 := Lib.hid (show EnBox (w.alloc (.cells #[.int .i64 k, .int .i64 f, .int .i64 n, .slice A l.length c] 36)) w.heap.size k f n A l.length c from heap_alloc_new w _)
 clear hI hB hp hC hok hm hs o1 o2 o3 e1 e2
 go_enter Try.func43, Try.ntmps43
 go_wp2_with fail
 obtain ⟨b, hb⟩ : ∃ b, w.heap.size = b := ⟨_, rfl⟩
 obtain ⟨v0, hv0⟩ : ∃ v0, w.alloc (.cells #[.int .i64 k, .int .i64 f, .int .i64 n, .slice A l.length c] 36) = v0 := ⟨_, rfl⟩
 rw [hv0] at H0 HB0 HK0 HT0 ⊢
 rw [hb] at HNE HT0 ⊢
 clear hb hv0
 obtain ⟨d0, d1, d2, d3, dz⟩ := HT0.out.cell
 have HD := Lib.hid (show Below v0.heap.size v0 v0.drew from (Below.refl _ _).drew)
 have HN := Lib.hid (many_is (H0.out.below HD.out) HB0.out.drew HP.out k HO.out.1 (by have := HS.out; omega))
 go_region_held3 (fun w' => w'.cell? ⟨b, 0, none⟩ = some (.int .i64 k)) (go_keep) (((refine HN.out.mono ?_; rintro e v1 ⟨rfl, h1, h2, h3⟩; have H1 := Lib.hid h1; have HB1 := Lib.hid h2; have HK1 := Lib.hid (HK0.out.drew.trans h3); have HT1 := Lib.hid (HT0.out.keep (((KeepS.refl (fun i => i = p) v0).drew).trans h3) HNE.out); clear h1 h2 h3; have qh0 : v1.cell? ⟨b, 0, none⟩ = some (.int .i64 k) := HT1.out.cell.1)))
 clear HN HD d0 d1 d2 d3 dz
 cases hk : (k == 0) with
 | true =>
  have hk0 : k = 0 := by simpa using hk
  have HF := Lib.hid (show IsPen v1 w0.heap.size p (l0 ++ entB k f n l) by unfold entB; rw [if_pos hk0, ← hk0]; exact H1.out)
  clear hk0
  go_wp2_with fail
  go_end0
  exact ⟨rfl, HF.out, HB1.out, HK1.out⟩
 | false =>
  have hk0 : k ≠ 0 := by simpa using hk
  obtain ⟨m1, m2, m3⟩ := mayE_one HM.out hk0
  have HMM := Lib.hid (And.intro m2 m3)
  have HK0 := Lib.hid hk0
  have i2 : isI64 (l.length : Int) := by unfold isI64; omega
  have HI2 := Lib.hid i2
  have e3 := (numB_len i2).2
  have HE3 := Lib.hid e3
  clear hk0 m1 m2 m3 i2 e3
  go_wp2_with fail
  obtain ⟨d0, d1, d2, d3, dz⟩ := HT1.out.cell
  have HD := Lib.hid (show Below v1.heap.size v1 (v1.alloc (.cells #[.int .i64 f, .int .i64 n] 2)).drew from ((Below.refl _ v1).alloc (Nat.le_refl _) _).drew)
  have HN := Lib.hid (nums_is (H1.out.below HD.out) ((HB1.out.alloc HB1.out.size _).drew) HP.out _ 2 [f, n] (Kd.C_drew (C_lit v1 [f, n] (by simp))) HO.out.2.1 (by have := HS.out; have := HE.out; simp only [List.length_append, List.length_cons, List.length_nil]; omega))
  go_region_held3 (fun w' => w'.cell? ⟨b, 1, none⟩ = some (.int .i64 f) ∧ w'.cell? ⟨b, 2, none⟩ = some (.int .i64 n)) (go_keep) (((refine HN.out.mono ?_; rintro e v2 ⟨rfl, h1, h2, h3⟩; have H2 := Lib.hid h1; have HB2 := Lib.hid h2; have HK2 := Lib.hid (((HK1.out.alloc (.cells #[.int .i64 f, .int .i64 n] 2)).drew).trans h3); have HT2 := Lib.hid (HT1.out.keep ((((KeepS.refl (fun i => i = p) v1).alloc (.cells #[.int .i64 f, .int .i64 n] 2)).drew).trans h3) HNE.out); clear h1 h2 h3; have qh1 : v2.cell? ⟨b, 1, none⟩ = some (.int .i64 f) := HT2.out.cell.2.1; have qh2 : v2.cell? ⟨b, 2, none⟩ = some (.int .i64 n) := HT2.out.cell.2.2.1)))
  clear HN HD d0 d1 d2 d3 dz qh1 qh2 qh0
  obtain ⟨d0, d1, d2, d3, dz⟩ := HT2.out.cell
  have HD := Lib.hid (show Below v2.heap.size v2 v2.drew from (Below.refl _ _).drew)
  have HN := Lib.hid (many_is (H2.out.below HD.out) HB2.out.drew HP.out l.length HI2.out (by have := HS.out; have := HE.out; simp only [List.length_append]; omega))
  go_wp2_with fail
  go_region_held3 (fun w' => w'.cell? ⟨b, 3, none⟩ = some (.slice A l.length c)) (go_keep) (((refine HN.out.mono ?_; rintro e v3 ⟨rfl, h1, h2, h3⟩; have H3 := Lib.hid h1; have HB3 := Lib.hid h2; have HK3 := Lib.hid (HK2.out.drew.trans h3); have HT3 := Lib.hid (HT2.out.keep (((KeepS.refl (fun i => i = p) v2).drew).trans h3) HNE.out); clear h1 h2 h3; have qh3 : v3.cell? ⟨b, 3, none⟩ = some (.slice A l.length c) := HT3.out.cell.2.2.2.1)))
  clear HN HD d0 d1 d2 d3 dz
  obtain ⟨la, hla⟩ : ∃ la, l0 ++ numB k ++ numsB [f, n] ++ numB l.length = la := ⟨_, rfl⟩
  rw [hla] at H3
  have HLA := Lib.hid hla
  have HLL := Lib.hid (show la.length ≤ l0.length + 40 by rw [← hla]; have := HE.out; have := HE3.out; simp only [List.length_append]; omega)
  clear hla
  go_wp2_with fail
  go_loopw [34] (fun i wr => EnL w0 w p la l i wr) (fun i _ => l.length - (intOf i).toNat)
  case atStart => exact ⟨0, rfl, Nat.zero_le _, by simpa using H3.out, HB3.out, HK3.out⟩
  case round =>
   obtain ⟨j, rfl, hj, hI, hB, hK⟩ := hrel
   have HI := Lib.hid hI; have HB := Lib.hid hB; have HKj := Lib.hid hK
   clear hI hB hK
   by_cases hlt : j < l.length
   ·obtain ⟨x, hx⟩ : ∃ x, l[j]? = some x := ⟨_, List.getElem?_eq_getElem hlt⟩
    obtain ⟨ad, A2, c2, A3, c3, A4, c4, A5, c5, rfl, hAt, hTC⟩ := tx_get HC.out hx
    obtain ⟨x0, x1, x2, x3, x4, x5⟩ := hAt.below HB.out
    have HTC := Lib.hid hTC
    have HX := Lib.hid (show l.take (j + 1) = l.take j ++ [x] by rw [List.take_add_one, hx]; rfl)
    have HOX := Lib.hid (And.intro (List.all_eq_true.1 HO.out.2.2 x (List.mem_of_getElem? hx)) (List.all_eq_true.1 HMM.out.2 x (List.mem_of_getElem? hx)))
    have HLJ := Lib.hid (show (la ++ (l.take j).flatMap txB).length + 2000 < 140737488355328 by
     have h1 := flat_len txB 1300 (l.take j) (fun y hy => txB_len (List.all_eq_true.1 HO.out.2.2 y (List.mem_of_mem_take hy)) (List.all_eq_true.1 HMM.out.2 y (List.mem_of_mem_take hy)))
     have h2 := HMM.out.1; have h3 := HLL.out; have h4 := HS.out
     rw [List.length_take] at h1
     rw [List.length_append]
     omega)
    have HI5 := Lib.hid (HI.out.below ((Below.refl _ wr).alloc (Nat.le_refl _) (.cells #[.int .i64 x.f0, .int .i64 x.f1, .slice A2 x.f2.length c2, .slice A3 x.f3.length c3, .slice A4 x.f4.length c4, .slice A5 x.f5.length c5] 32)))
    have HB5 := Lib.hid (HB.out.alloc HB.out.size (.cells #[.int .i64 x.f0, .int .i64 x.f1, .slice A2 x.f2.length c2, .slice A3 x.f3.length c3, .slice A4 x.f4.length c4, .slice A5 x.f5.length c5] 32))
    have HK5 := Lib.hid (HKj.out.alloc (.cells #[.int .i64 x.f0, .int .i64 x.f1, .slice A2 x.f2.length c2, .slice A3 x.f3.length c3, .slice A4 x.f4.length c4, .slice A5 x.f5.length c5] 32))
    clear hx hAt hTC
    go_wp2_with fail
    refine (penTxn_is HI5.out HB5.out HP.out x HTC.out HOX.out.1 HOX.out.2 HLJ.out).mono ?_
    rintro e w6 ⟨rfl, h1, h2, h3⟩
    have H6 := Lib.hid h1; have HB6 := Lib.hid h2; have HK6 := Lib.hid (HK5.out.trans h3)
    clear h1 h2 h3 x0 x1 x2 x3 x4 x5
    go_wp2_with fail
    go_roundw
    case rel =>
     refine ⟨j + 1, by go_num, hlt, ?_, HB6.out, HK6.out⟩
     have h1 := H6.out
     rw [HX.out, List.flatMap_append, List.flatMap_cons, List.flatMap_nil, List.append_nil, ← List.append_assoc]
     exact h1
    case measure => simp [intOf]; omega
   ·have hjn : j = l.length := by omega
    have HF := Lib.hid (show IsPen wr w0.heap.size p (l0 ++ entB k f n l) by
     have := HI.out
     rw [hjn, List.take_length, ← HLA.out] at this
     unfold entB
     rw [if_neg HK0.out]
     simp only [List.append_assoc] at this ⊢
     exact this)
    clear hjn
    go_wp2_with fail
    go_end0
    exact ⟨rfl, HF.out, HB.out, HKj.out⟩
end Go.Proofs.Ytgmlpmdfkaadhaa.M
end

section
/- record.Entry. -/
namespace Go.Proofs.Ytgmlpmdfkaadhaa.M
open Go.RowKit Go.Proofs.YtgmlpmdfkaadhaaW.PrintWords Go.Proofs.YtgmlpmdfkaadhaaW.PrintLast Go.Proofs.YtgmlpmdfkaadhaaW.PrintMore Go.Proofs.Ytgmlpmdfkaadhaa.G
def BytesP (w : World) (l : List Int) (x : Int) (e : Ending) (w' : World) : Prop := ∃ v0_ : Value, e = .returned (.tuple #[v0_, .int .i64 x]) ∧ Kd.R (Kd.int .u8) 5 w' w.heap.size (fun _ => True) v0_ l ∧ Below w.heap.size w w'
theorem fits_is {w0 w : World} {ok : Nat → Prop} {v : Value} {l : List Int} (hB : Below w0.heap.size w0 w) (hv : Kd.R (Kd.int .u8) 5 w w0.heap.size ok v l) :
  Calls Try.prog 44 #[v] w fun e w' => BytesP w0 (if 1048576 < l.length then [] else l) (if 1048576 < l.length then 3 else 0) e w' := by
 refine (G.record_fits.calls ok v l (if 1048576 < l.length then [] else l) (if 1048576 < l.length then 3 else 0) w0 w hB hv ?_).mono ?_
 ·unfold G.record_fits.f
  by_cases h : 1048576 < l.length
  ·rw [if_pos (by omega), if_pos h, if_pos h]
  ·rw [if_neg (by omega), if_neg h, if_neg h]
 ·rintro e w' ⟨v0, rfl, h1, h2, _⟩
  exact ⟨v0, rfl, Kd.R_mono h1 (fun _ _ => trivial), h2⟩
def entF (k f n : Int) (l : List TxD) : List Int × Int := if mayE k f n l = true then (if 1048576 < (entB k f n l).length then ([], 3) else (entB k f n l, 0)) else ([], 40)
set_option maxHeartbeats 1000000 in
theorem entry_is (k f n : Int) (A : Option Addr) (c : Nat) (l : List TxD) (w : World) (hr : Kd.C G.k32 w A l.length l) (ho : okE k f n l = true) :
  Calls Try.prog 29 #[.agg #[.int .i64 k, .int .i64 f, .int .i64 n, .slice A l.length c]] w fun e w' => BytesP w (entF k f n l).1 (entF k f n l).2 e w' := by
 have HO := Lib.hid ho
 have HB1 := Lib.hid (show Below w.heap.size w (w.alloc (.cells #[.int .i64 k, .int .i64 f, .int .i64 n, .slice A l.length c] 36)) from (Below.refl _ _).alloc (Nat.le_refl _) _)
 have HX1 := Lib.hid (show EnBox (w.alloc (.cells #[.int .i64 k, .int .i64 f, .int .i64 n, .slice A l.length c] 36)) w.heap.size k f n A l.length c from heap_alloc_new w _)
 have HR1 := Lib.hid (Kd.C_below hr HB1.out)
 have HR := Lib.hid hr
 clear hr ho
 go_enter Try.func29, Try.ntmps29
 go_wp2_with fail
 refine (mayEn_is k f n A c l _ HR1.out).mono ?_
 rintro e w2 ⟨rfl, hb⟩
 have HB2 := Lib.hid (below_then HB1.out hb); have HX2 := Lib.hid (HX1.out.below hb)
 clear hb
 cases hm : mayE k f n l with
 | false =>
  have HF := Lib.hid (show entF k f n l = ([], 40) by unfold entF; rw [if_neg (by rw [hm]; simp)])
  clear hm
  go_wp2_with fail
  go_ret2
  refine ⟨.slice none 0 0, by rw [HF.out]; rfl, by rw [HF.out]; exact Kd.R_nil _ _ _ _ _, HB2.out⟩
 | true =>
  have HM := Lib.hid hm
  have HF := Lib.hid (show entF k f n l = (if 1048576 < (entB k f n l).length then [] else entB k f n l, if 1048576 < (entB k f n l).length then 3 else 0) by
   unfold entF
   rw [if_pos hm]
   split <;> rfl)
  clear hm
  go_wp2_with fail
  refine (newPen_is none 0 [] w2 (Kd.C_nil _ _) (by simp) (by simp)).mono ?_
  rintro e w3 ⟨p, rfl, hI, hb⟩
  have HB3 := Lib.hid (below_then HB2.out hb); have HX3 := Lib.hid (HX2.out.below hb)
  have HI3 := Lib.hid (show IsPen w3 w.heap.size p [] by
   obtain ⟨A', c', h1, h2, h3, h4⟩ := hI
   have hz := HB2.out.size
   exact ⟨A', c', h1, by omega, h3, Kd.R_lower h4 hz⟩)
  obtain ⟨d0, d1, d2, d3, dz⟩ := HX3.out.cell
  clear hI hb
  go_wp2_with fail
  refine (penEntry_is HI3.out HB3.out HI3.out.ge k f n A c l HR.out HO.out HM.out (by simp)).mono ?_
  rintro e w4 ⟨rfl, h1, h2, h3⟩
  have HB4 := Lib.hid h2
  obtain ⟨A', c', hh, _, hc', hR⟩ := h1
  have HRR := Lib.hid hR
  rw [List.nil_append] at hh HRR
  obtain ⟨bs, hbs⟩ : ∃ bs, entB k f n l = bs := ⟨_, rfl⟩
  rw [hbs] at hh HRR HF
  have p0 : w4.cell? ⟨p, 0, none⟩ = some (.slice A' bs.length c') := by simp [World.cell?, hh]
  clear h2 h3 hh hc' hR hbs d0 d1 d2 d3 dz
  go_wp2_with fail
  refine (fits_is HB4.out HRR.out).mono ?_
  rintro e w5 ⟨v, rfl, hv, hb⟩
  have HV := Lib.hid hv; have HB5 := Lib.hid hb
  clear hv hb
  obtain ⟨q, hq⟩ : ∃ q : Int, (if 1048576 < bs.length then 3 else 0) = q := ⟨_, rfl⟩
  rw [hq] at HF ⊢
  clear hq
  go_wp2_with fail
  go_ret2
  exact ⟨v, by rw [HF.out]; rfl, by rw [HF.out]; exact HV.out, HB5.out⟩
end Go.Proofs.Ytgmlpmdfkaadhaa.M
namespace Go.Proofs.Ytgmlpmdfkaadhaa.G
open Go.RowKit Go.Proofs.YtgmlpmdfkaadhaaW.PrintWords Go.Proofs.Ytgmlpmdfkaadhaa.M
def record_Entry.f (a0_0 a0_1 a0_2 : Int) (l0_3 : List S32) : Option (List Int × Int) := if okE a0_0 a0_1 a0_2 l0_3 = true then some (entF a0_0 a0_1 a0_2 l0_3) else none
theorem record_Entry.calls (a0_0 a0_1 a0_2 : Int) (A0_3 : Option Addr) (c0_3 : Nat) (l0_3 : List S32) (r1 : List Int) (r2 : Int) (w : World) (hr0_3 : Kd.C k32 w A0_3 l0_3.length l0_3) (hc0_3 : l0_3.length ≤ c0_3) (h : record_Entry.f a0_0 a0_1 a0_2 l0_3 = some (r1, r2)) :
  Calls Try.prog 29 #[.agg #[.int .i64 a0_0, .int .i64 a0_1, .int .i64 a0_2, .slice A0_3 l0_3.length c0_3]] w fun e w' => ∃ v0_ : Value, e = .returned (.tuple #[v0_, .int .i64 r2]) ∧ Kd.R (Kd.int .u8) 5 w' w.heap.size (fun _ => True) v0_ r1 ∧ Below w.heap.size w w' := by
 unfold record_Entry.f at h
 split at h
 ·rename_i ho
  have h := Option.some.inj h
  have := entry_is a0_0 a0_1 a0_2 A0_3 c0_3 l0_3 w hr0_3 ho
  rw [h] at this
  exact this
 ·cases h
end Go.Proofs.Ytgmlpmdfkaadhaa.G
end

section
/- Entries' and transactions' bytes in plain Lean: from the front of them they are known. -/
namespace Go.Proofs.Ytgmlpmdfkaadhaa.M
open Go.RowKit Go.Proofs.YtgmlpmdfkaadhaaW.PrintWords Go.Proofs.YtgmlpmdfkaadhaaW.PrintLast Go.Proofs.YtgmlpmdfkaadhaaW.PrintMore Go.Proofs.Ytgmlpmdfkaadhaa.G
def TxP1 (t : TxD) : Prop := okT t = true ∧ mayT t = true
theorem mayT_len {t : TxD} (h : mayT t = true) : t.f2.length ≤ 512 ∧ t.f3.length ≤ 8 ∧ t.f4.length ≤ 16 ∧ t.f5.length ≤ 16 := by
 unfold mayT mayK at h
 simp only [Bool.and_eq_true, decide_eq_true_eq] at h
 omega
theorem okT_all {t : TxD} (h : okT t = true) : isI64 t.f0 ∧ isI64 t.f1 ∧ okB t.f2 = true ∧ (∀ x ∈ t.f3, isI64 x) ∧ (∀ x ∈ t.f4, okK x = true) ∧ (∀ x ∈ t.f5, okK x = true) := by
 unfold okT at h
 simp only [Bool.and_eq_true, decide_eq_true_eq] at h
 obtain ⟨h0, h1, h2, h3, h4, h5⟩ := h
 refine ⟨h0, h1, h2, fun x hx => ?_, List.all_eq_true.1 h4, List.all_eq_true.1 h5⟩
 unfold okI at h3
 have := List.all_eq_true.1 h3 x hx
 simpa using this
theorem bound_T (l : List TxD) : ∃ M, ∀ t ∈ l, mT t ≤ M := by
 induction l with
 | nil => exact ⟨0, fun t h => by cases h⟩
 | cons a l ih =>
  obtain ⟨M, hM⟩ := ih
  refine ⟨mT a + M, fun t h => ?_⟩
  rcases List.mem_cons.1 h with rfl | h
  ·omega
  ·have := hM t h; omega
theorem nat_i64 (n : Nat) (h : n ≤ 9223372036854775807) : isI64 (n : Int) := by unfold isI64; omega
end Go.Proofs.Ytgmlpmdfkaadhaa.M
end

section
/- The arguments of law04's statements, opened. -/
namespace Go.Proofs.Ytgmlpmdfkaadhaa.M
open Go.RowKit Go.Proofs.YtgmlpmdfkaadhaaW.PrintWords Go.Proofs.YtgmlpmdfkaadhaaW.PrintLast Go.Proofs.YtgmlpmdfkaadhaaW.PrintMore Go.Proofs.Ytgmlpmdfkaadhaa.G
abbrev I64 (x : Int) : Prop := (Lit.int .i64 x).wf = true
abbrev I32 (x : Int) : Prop := (Lit.int .i32 x).wf = true
abbrev U8 (x : Int) : Prop := (Lit.int .u8 x).wf = true
abbrev LenP {α : Type} (ok : α → Prop) (l : List α) : Prop := l.length ≤ 9223372036854775807 ∧ ∀ x ∈ l, ok x
def okKd (k : KeyD) : Prop := I32 k.f0 ∧ I64 k.f1
def okTd (t : TxD) : Prop := I64 t.f0 ∧ I64 t.f1 ∧ LenP U8 t.f2 ∧ LenP I64 t.f3 ∧ LenP okKd t.f4 ∧ LenP okKd t.f5
theorem i64_of {x : Int} (h : I64 x) : isI64 x := by
 have this : (Lit.int .i64 x).wf = true := h
 simp only [Lit.wf, Bool.and_eq_true, decide_eq_true_eq] at this
 have e1 : IntKind.i64.min = -9223372036854775808 := rfl
 have e2 : IntKind.i64.max = 9223372036854775807 := rfl
 unfold isI64
 omega
theorem i32_of {x : Int} (h : I32 x) : -2147483648 ≤ x ∧ x ≤ 2147483647 := by
 have this : (Lit.int .i32 x).wf = true := h
 simp only [Lit.wf, Bool.and_eq_true, decide_eq_true_eq] at this
 have e1 : IntKind.i32.min = -2147483648 := rfl
 have e2 : IntKind.i32.max = 2147483647 := rfl
 omega
abbrev szN (l : List Int) : Nat := szL (fun _ : Int => 1) l
abbrev szK (k : KeyD) : Nat := 1 + 1 + 1
abbrev szT (t : TxD) : Nat := 1 + (1 + (szN t.f2 + (szN t.f3 + (szL szK t.f4 + szL szK t.f5)))) + 1
theorem opens_j64 : Opens Try.prog 2 (Kd.int .i64) I64 (fun _ => 1) := opens_int Try.underlying2 (by kernel_rfl)
theorem opens_i32 : Opens Try.prog 21 (Kd.int .i32) I32 (fun _ => 1) := opens_int Try.underlying21 (by kernel_rfl)
theorem opens_u8 : Opens Try.prog 5 (Kd.int .u8) U8 (fun _ => 1) := opens_int Try.underlying5 (by kernel_rfl)
theorem opens_bytes : Opens Try.prog 28 (Kd.slice 5 (Kd.int .u8)) (LenP U8) szN := opens_slice Try.underlying28 (by kernel_rfl) opens_u8
theorem opens_nums : Opens Try.prog 29 (Kd.slice 2 (Kd.int .i64)) (LenP I64) szN := opens_slice Try.underlying29 (by kernel_rfl) opens_j64
theorem opens_key : Opens Try.prog 54 G.k54 okKd szK := opens_struct (d := Kd.pair (Kd.int .i32) (Kd.int .i64)) (fun x : KeyD => (x.f0, x.f1)) (fun x => ⟨x.1, x.2⟩) (fun _ => rfl) Try.underlying54 (by kernel_rfl) (opensL_cons rfl opens_i32 (opensL_one rfl opens_j64))
theorem opens_keys : Opens Try.prog 30 (Kd.slice 54 G.k54) (LenP okKd) (szL szK) := opens_slice Try.underlying30 (by kernel_rfl) opens_key
theorem opens_txn : Opens Try.prog 32 G.k32 okTd szT := opens_struct (fun x : TxD => (x.f0, x.f1, x.f2, x.f3, x.f4, x.f5)) (fun x => ⟨x.1, x.2.1, x.2.2.1, x.2.2.2.1, x.2.2.2.2.1, x.2.2.2.2.2⟩) (fun _ => rfl) Try.underlying32 (by kernel_rfl)
 (opensL_cons rfl opens_j64 (opensL_cons rfl opens_j64 (opensL_cons rfl opens_bytes (opensL_cons rfl opens_nums (opensL_cons rfl opens_keys (opensL_one rfl opens_keys))))))
theorem okT_of {t : TxD} (h : okTd t) : okT t = true ∧ TxLs t := by
 obtain ⟨h0, h1, h2, h3, h4, h5⟩ := h
 have k4 : ∀ x : KeyD, okKd x → okK x = true := fun x hx => by
  obtain ⟨a, b⟩ := hx
  have a := i32_of a
  unfold okK
  exact decide_eq_true ⟨a.1, a.2, i64_of b⟩
 have i0 : isI64 t.f0 := i64_of h0
 have i1 : isI64 t.f1 := i64_of h1
 refine ⟨?_, h2.1, h3.1, h4.1, h5.1⟩
 unfold okT
 rw [decide_eq_true i0, decide_eq_true i1, okI_of_wf h3.2, List.all_eq_true.2 (fun x hx => k4 x (h4.2 x hx)), List.all_eq_true.2 (fun x hx => k4 x (h5.2 x hx))]
 rw [okB_of_wf h2.2]
 rfl
end Go.Proofs.Ytgmlpmdfkaadhaa.M
end

section
/- An entry as Lean data. -/
namespace Go.Proofs.Ytgmlpmdfkaadhaa.M
open Go.RowKit Go.Proofs.YtgmlpmdfkaadhaaW.PrintWords Go.Proofs.YtgmlpmdfkaadhaaW.PrintLast Go.Proofs.YtgmlpmdfkaadhaaW.PrintMore Go.Proofs.Ytgmlpmdfkaadhaa.G
structure EntD where
 f0 : Int
 f1 : Int
 f2 : Int
 f3 : List TxD
def zE : EntD := ⟨0, 0, 0, []⟩
end Go.Proofs.Ytgmlpmdfkaadhaa.M
end

section
/- A sequencer in plain Lean. -/
namespace Go.Proofs.Ytgmlpmdfkaadhaa.M
open Go.RowKit Go.Proofs.YtgmlpmdfkaadhaaW.PrintWords Go.Proofs.YtgmlpmdfkaadhaaW.PrintLast Go.Proofs.YtgmlpmdfkaadhaaW.PrintMore Go.Proofs.Ytgmlpmdfkaadhaa.G
structure SqS where
 r : Int
 l : List TxD
 n : Int
 t : Int
def keyTx (t : TxD) : Int × Int := (t.f0, t.f1)
def waitsB (l : List TxD) (k : Int × Int) : Bool := l.any fun t => keyTx t == k
structure OkQ (s : SqS) : Prop where
 r : 0 ≤ s.r ∧ s.r ≤ 4
 n : 0 ≤ s.n ∧ s.n ≤ 1099511627776
 t : 0 ≤ s.t ∧ s.t < 4
 m : s.l.length ≤ 64
 a : ∀ t ∈ s.l, TxP1 t
 u : (s.l.map keyTx).Nodup
def qFlush (s : SqS) : SqS × EntD × Bool := if s.l = [] ∨ 1099511627776 ≤ s.n then (s, zE, false) else ({ s with l := s.l.drop 16, n := s.n + 1 }, ⟨1, s.r, s.n, s.l.take 16⟩, true)
def qTick (s : SqS) : SqS × EntD × Bool := if s.t = 3 then qFlush { s with t := 0 } else ({ s with t := s.t + 1 }, zE, false)
theorem batch_ok {l : List TxD} {r n : Int} (h : ∀ t ∈ l, TxP1 t) (h0 : 1 ≤ l.length) (h1 : l.length ≤ 16) (hr : 0 ≤ r ∧ r ≤ 4) (hn : 0 ≤ n ∧ n ≤ 1099511627776) :
  okE 1 r n l = true ∧ mayE 1 r n l = true ∧ entF 1 r n l = (entB 1 r n l, 0) ∧ (entB 1 r n l).length ≤ 25000 := by
 have ho : okE 1 r n l = true := by
  unfold okE
  rw [decide_eq_true (by decide : isI64 1), decide_eq_true (by unfold isI64; omega : isI64 r), decide_eq_true (by unfold isI64; omega : isI64 n), List.all_eq_true.2 (fun t ht => (h t ht).1)]
  rfl
 have hm : mayE 1 r n l = true := by
  unfold mayE
  rw [if_neg (by decide), List.all_eq_true.2 (fun t ht => (h t ht).2)]
  simp [inB]
  omega
 have hl := entB_len ho hm
 refine ⟨ho, hm, ?_, hl⟩
 unfold entF
 rw [if_pos hm, if_neg (by omega)]
theorem one_err {t : TxD} (ho : okT t = true) : (entF 1 0 0 [t]).2 = if mayT t = true then 0 else 40 := by
 by_cases h : mayT t = true
 ·rw [if_pos h, (batch_ok (l := [t]) (r := 0) (n := 0) (fun x hx => by rw [List.mem_singleton.1 hx]; exact ⟨ho, h⟩) (by simp) (by simp) (by decide) (by decide)).2.2.1]
 ·rw [if_neg h]
  unfold entF
  rw [if_neg]
  unfold mayE
  rw [if_neg (by decide)]
  simp [h]
theorem OkQ.flush {s : SqS} (h : OkQ s) : OkQ (qFlush s).1 := by
 unfold qFlush
 split
 ·exact h
 ·next hc =>
  refine ⟨h.r, ⟨by have := h.n; show 0 ≤ s.n + 1; omega, by show s.n + 1 ≤ _; omega⟩, h.t, by have := h.m; show (s.l.drop 16).length ≤ 64; rw [List.length_drop]; omega, fun t ht => h.a t (List.mem_of_mem_drop ht), ?_⟩
  show ((s.l.drop 16).map keyTx).Nodup
  rw [List.map_drop]
  exact (List.drop_sublist 16 _).nodup h.u
def qTake (s : SqS) (t : TxD) : SqS × Int := if mayT t = false then (s, 1) else if waitsB s.l (keyTx t) = true then (s, 210) else if 64 ≤ s.l.length then (s, 6) else ({ s with l := s.l ++ [t] }, 0)
theorem waits_iff (l : List TxD) (k : Int × Int) : waitsB l k = true ↔ k ∈ l.map keyTx := by
 unfold waitsB
 rw [List.any_eq_true, List.mem_map]
 exact ⟨fun ⟨t, ht, he⟩ => ⟨t, ht, by simpa using he⟩, fun ⟨t, ht, he⟩ => ⟨t, ht, by simpa using he⟩⟩
theorem OkQ.take {s : SqS} (h : OkQ s) {t : TxD} (ho : okT t = true) : OkQ (qTake s t).1 := by
 unfold qTake
 split
 ·exact h
 split
 ·exact h
 split
 ·exact h
 ·next h1 h2 h3 =>
  refine ⟨h.r, h.n, h.t, by show (s.l ++ [t]).length ≤ 64; rw [List.length_append]; simp; omega, fun u hu => ?_, ?_⟩
  ·rcases List.mem_append.1 hu with hu | hu
   ·exact h.a u hu
   ·rw [List.mem_singleton.1 hu]
    exact ⟨ho, by simpa using h1⟩
  ·show ((s.l ++ [t]).map keyTx).Nodup
   rw [List.map_append, List.nodup_append]
   refine ⟨h.u, by simp, fun a ha b hb => ?_⟩
   rw [List.map_singleton, List.mem_singleton] at hb
   subst hb
   intro e
   subst e
   exact h2 ((waits_iff _ _).2 ha)
theorem qFlush_some {s : SqS} (h : OkQ s) (hl : s.l ≠ []) (hn : s.n < 1099511627776) : qFlush s = ({ s with l := s.l.drop 16, n := s.n + 1 }, ⟨1, s.r, s.n, s.l.take 16⟩, true) := by
 unfold qFlush
 rw [if_neg (by rintro (c | c); exact hl c; omega)]
end Go.Proofs.Ytgmlpmdfkaadhaa.M
end
